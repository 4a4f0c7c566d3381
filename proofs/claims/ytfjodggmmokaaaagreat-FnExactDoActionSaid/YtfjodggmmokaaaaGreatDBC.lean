/- Screens, as the reference edits them. -/
import Derived.Test.YtfjodggmmokaaaaGreatDAK
import Derived.Test.YtfjodggmmokaaaaGreatDBB
set_option linter.unusedSimpArgs false
set_option linter.unusedVariables false
set_option linter.constructorNameAsVariable false
namespace Go.Mu
open Go Go.Vm Go.RowKit Go.Proofs
attribute [local irreducible] wpA opsA stillA drawA drawS
set_option maxRecDepth 20000
set_option maxHeartbeats 40000000
def shC (s : Scr) (n : Int) : Cs := over s.grid.cells (s.y.toNat * s.grid.width.toNat) (shR ((s.grid.cells.drop (s.y.toNat * s.grid.width.toNat)).take s.grid.width.toNat) s.x.toNat s.grid.width.toNat n s.attr)
theorem l5Edits0 (s : Scr) (r w : Nat) (h : OkS s r w) (c first n : Int) (hn : 1 ≤ n ∧ n ≤ 99999) (hc : c = 74) : CallA S 228 [.ptr (.loc 0) 20 none 0, .int .i64 c, .int .i64 first, .int .i64 n] ⟨[⟨.loc 0, true, .raw (scrC (.loc 1) (.loc 2) (.loc 3) (.loc 4) s)⟩, ⟨.loc 1, true, .arr pairE s.grid.cells⟩, ⟨.loc 2, true, .arr pairE s.grid.back⟩], 5⟩ (Ret1 (.tup []) ⟨[⟨.loc 0, true, .raw (scrC (.loc 1) (.loc 5) (.loc 3) (.loc 4) (wipeM s first 0 s.grid.cells.length : Scr))⟩, ⟨.loc 1, true, .arr pairE (wipeM s first 0 s.grid.cells.length : Scr).grid.cells⟩, ⟨.loc 5, true, .arr pairE (wipeM s first 0 s.grid.cells.length : Scr).grid.back⟩], 6⟩) := by
  have hh := h
  obtain ⟨h1, h2, h3, h4, h5, h6, h7, h8, h9, h10, h11, _⟩ := hh
  obtain ⟨y, hy⟩ := Int.eq_ofNat_of_zero_le (show 0 ≤ s.y by omega)
  obtain ⟨x, hx⟩ := Int.eq_ofNat_of_zero_le (show 0 ≤ s.x by omega)
  obtain ⟨t, ht⟩ := Int.eq_ofNat_of_zero_le (show 0 ≤ s.top by omega)
  obtain ⟨b, hb⟩ := Int.eq_ofNat_of_zero_le (show 0 ≤ s.bottom by omega)
  have e1 : s.y.toNat = y := by omega
  have e2 : s.x.toNat = x := by omega
  have e3 : s.grid.width.toNat = w := by omega
  have e4 : s.top.toNat = t := by omega
  have e5 : s.bottom.toNat = b := by omega
  have hrw : r * w ≤ 6 * 12 := Nat.mul_le_mul h1.2 h2.2
  have hi : s.y * s.grid.width = ((y * w : Nat) : Int) := by rw [hy, h4]; exact (Int.natCast_mul _ _).symm
  have hyw : (y + 1) * w = y * w + w := Nat.succ_mul y w
  have hi1 : (s.y + 1) * s.grid.width = ((y * w : Nat) : Int) + w := by rw [Int.add_mul, Int.one_mul, hi, h4]
  have hle := mul_lt_le (w := w) (show y + 1 ≤ r by omega)
  have hle2 := mul_lt_le (w := w) (show b + 1 ≤ r by omega)
  have hwp := l5Wipe s r w h first 0 s.grid.cells.length (by rw [e1, e2]; omega) (by rw [e1, e2]; omega) (by omega)
  have hcl : (wipeM s first 0 s.grid.cells.length).grid.cells.length = s.grid.cells.length := by
    unfold wipeM
    rw [e1, e2, e3]
    split
    · exact erC_len (by omega) (by omega)
    · split
      · exact erC_len (by omega) (by omega)
      · split
        · exact erC_len (by omega) (by omega)
        · rfl
  have hbk : (wipeM s first 0 s.grid.cells.length).grid.back = s.grid.back := by unfold wipeM; split; rfl; split; rfl; split; rfl; rfl
  refine .ofC hS _ _ _ Tryz.func228 ?_
  conv => whnf
  repeat' (first|refine Seal.mk ?_|(refine wS ?_;(conv=>whnf);fail_if_success show False)|((first|refine opsA_step ?_|apply wL (hwp)|apply wL (minS _ _));conv=>whnf)|(intro _;first|omega|conv=>whnf)|(apply And.intro<;>intro _<;>first|omega|conv=>whnf)|((first|refine aLQ ?_|refine ⟨_,rfl,?_⟩|refine ⟨_,⟨rfl,rfl⟩,?_⟩|refine ⟨_,⟨rfl,rfl,leafQ⟩,?_⟩);conv=>whnf)|with_reducible assumption|exact lfQ|fail)
  all_goals (first | contradiction | (exfalso; omega) | (refine ⟨(),⟨⟩,?_⟩;exact fzQ))
theorem l5Edits1 (s : Scr) (r w : Nat) (h : OkS s r w) (c first n : Int) (hn : 1 ≤ n ∧ n ≤ 99999) (hc : c = 75) : CallA S 228 [.ptr (.loc 0) 20 none 0, .int .i64 c, .int .i64 first, .int .i64 n] ⟨[⟨.loc 0, true, .raw (scrC (.loc 1) (.loc 2) (.loc 3) (.loc 4) s)⟩, ⟨.loc 1, true, .arr pairE s.grid.cells⟩, ⟨.loc 2, true, .arr pairE s.grid.back⟩], 5⟩ (Ret1 (.tup []) ⟨[⟨.loc 0, true, .raw (scrC (.loc 1) (.loc 5) (.loc 3) (.loc 4) (wipeM s first (s.y.toNat * s.grid.width.toNat) ((s.y.toNat * s.grid.width.toNat) + s.grid.width.toNat) : Scr))⟩, ⟨.loc 1, true, .arr pairE (wipeM s first (s.y.toNat * s.grid.width.toNat) ((s.y.toNat * s.grid.width.toNat) + s.grid.width.toNat) : Scr).grid.cells⟩, ⟨.loc 5, true, .arr pairE (wipeM s first (s.y.toNat * s.grid.width.toNat) ((s.y.toNat * s.grid.width.toNat) + s.grid.width.toNat) : Scr).grid.back⟩], 6⟩) := by
  have hh := h
  obtain ⟨h1, h2, h3, h4, h5, h6, h7, h8, h9, h10, h11, _⟩ := hh
  obtain ⟨y, hy⟩ := Int.eq_ofNat_of_zero_le (show 0 ≤ s.y by omega)
  obtain ⟨x, hx⟩ := Int.eq_ofNat_of_zero_le (show 0 ≤ s.x by omega)
  obtain ⟨t, ht⟩ := Int.eq_ofNat_of_zero_le (show 0 ≤ s.top by omega)
  obtain ⟨b, hb⟩ := Int.eq_ofNat_of_zero_le (show 0 ≤ s.bottom by omega)
  have e1 : s.y.toNat = y := by omega
  have e2 : s.x.toNat = x := by omega
  have e3 : s.grid.width.toNat = w := by omega
  have e4 : s.top.toNat = t := by omega
  have e5 : s.bottom.toNat = b := by omega
  have hrw : r * w ≤ 6 * 12 := Nat.mul_le_mul h1.2 h2.2
  have hi : s.y * s.grid.width = ((y * w : Nat) : Int) := by rw [hy, h4]; exact (Int.natCast_mul _ _).symm
  have hyw : (y + 1) * w = y * w + w := Nat.succ_mul y w
  have hi1 : (s.y + 1) * s.grid.width = ((y * w : Nat) : Int) + w := by rw [Int.add_mul, Int.one_mul, hi, h4]
  have hle := mul_lt_le (w := w) (show y + 1 ≤ r by omega)
  have hle2 := mul_lt_le (w := w) (show b + 1 ≤ r by omega)
  have hwp := l5Wipe s r w h first (y * w) (y * w + w) (by rw [e1, e2]; omega) (by rw [e1, e2]; omega) (by omega)
  have hcl : (wipeM s first (y * w) (y * w + w)).grid.cells.length = s.grid.cells.length := by
    unfold wipeM
    rw [e1, e2, e3]
    split
    · exact erC_len (by omega) (by omega)
    · split
      · exact erC_len (by omega) (by omega)
      · split
        · exact erC_len (by omega) (by omega)
        · rfl
  have hbk : (wipeM s first (y * w) (y * w + w)).grid.back = s.grid.back := by unfold wipeM; split; rfl; split; rfl; split; rfl; rfl
  rw [e1, e3]
  refine .ofC hS _ _ _ Tryz.func228 ?_
  conv => whnf
  repeat' (first|refine Seal.mk ?_|(refine wS ?_;(conv=>whnf);fail_if_success show False)|((first|refine opsA_step ?_|refine drawS_go ?_|refine wD (id:=5) (.quick 0 (.quick 1 (.quick 2 (.quick 3 (.quick 4 (.quick 6 (.quick 8 (.quick 9 (.quick 10 (.quick 13 (.read 5 (.quick 7 (.read 11 (.quick 12 (.quick 14 (.all (.step 15 .done))))))))))))))))) [15] (by kernel_rfl) rfl ?_|apply wL (hwp)|apply wL (minS _ _));conv=>whnf)|(intro _;first|omega|conv=>whnf)|(apply And.intro<;>intro _<;>first|omega|conv=>whnf)|((first|refine aLQ ?_|refine oLQ ?_|refine ⟨_,rfl,?_⟩|refine ⟨_,⟨rfl,rfl⟩,?_⟩|refine ⟨_,⟨rfl,rfl,leafQ⟩,?_⟩);conv=>whnf)|with_reducible assumption|exact lfQ|fail)
  all_goals (first | contradiction | (exfalso; omega) | (refine ⟨(),⟨⟩,?_⟩;exact fzQ))
theorem l5EditsX (s : Scr) (r w : Nat) (h : OkS s r w) (c first n : Int) (hn : 1 ≤ n ∧ n ≤ 99999) (hc : c = 88) : CallA S 228 [.ptr (.loc 0) 20 none 0, .int .i64 c, .int .i64 first, .int .i64 n] ⟨[⟨.loc 0, false, .raw (scrC (.loc 1) (.loc 2) (.loc 3) (.loc 4) s)⟩, ⟨.loc 1, true, .arr pairE s.grid.cells⟩], 5⟩ (Ret1 (.tup []) ⟨[⟨.loc 1, true, .arr pairE (erC s.grid.cells ((s.y.toNat * s.grid.width.toNat) + s.x.toNat) ((s.y.toNat * s.grid.width.toNat) + min s.grid.width.toNat (s.x.toNat + n.toNat)) s.attr)⟩], 5⟩) := by
  have hh := h
  obtain ⟨h1, h2, h3, h4, h5, h6, h7, h8, h9, h10, h11, _⟩ := hh
  obtain ⟨y, hy⟩ := Int.eq_ofNat_of_zero_le (show 0 ≤ s.y by omega)
  obtain ⟨x, hx⟩ := Int.eq_ofNat_of_zero_le (show 0 ≤ s.x by omega)
  obtain ⟨t, ht⟩ := Int.eq_ofNat_of_zero_le (show 0 ≤ s.top by omega)
  obtain ⟨b, hb⟩ := Int.eq_ofNat_of_zero_le (show 0 ≤ s.bottom by omega)
  have e1 : s.y.toNat = y := by omega
  have e2 : s.x.toNat = x := by omega
  have e3 : s.grid.width.toNat = w := by omega
  have e4 : s.top.toNat = t := by omega
  have e5 : s.bottom.toNat = b := by omega
  have hrw : r * w ≤ 6 * 12 := Nat.mul_le_mul h1.2 h2.2
  have hi : s.y * s.grid.width = ((y * w : Nat) : Int) := by rw [hy, h4]; exact (Int.natCast_mul _ _).symm
  have hyw : (y + 1) * w = y * w + w := Nat.succ_mul y w
  have hi1 : (s.y + 1) * s.grid.width = ((y * w : Nat) : Int) + w := by rw [Int.add_mul, Int.one_mul, hi, h4]
  have hle := mul_lt_le (w := w) (show y + 1 ≤ r by omega)
  have hle2 := mul_lt_le (w := w) (show b + 1 ≤ r by omega)
  obtain ⟨k, hk⟩ := Int.eq_ofNat_of_zero_le (show 0 ≤ n by omega)
  have e6 : n.toNat = k := by omega
  rw [e1, e2, e3, e6]
  have q1 : ((y * w + x : Nat) : Int) = s.y * s.grid.width + s.x := by rw [hi]; omega
  have q2 : ((y * w + min w (x + k) : Nat) : Int) = s.y * s.grid.width + min s.grid.width (s.x + n) := by rw [hi, h4, hx, hk]; omega
  have q1' := q1.symm
  have q2' := q2.symm
  have hm := l3Erase s.grid.cells s.grid.back s.grid.rows w s.attr (by omega) (y * w + x) (y * w + min w (x + k)) (by omega) (by omega)
  have hl := erC_len (c := s.grid.cells) (a := s.attr) (show y * w + x ≤ y * w + min w (x + k) by omega) (by omega)
  refine .ofC hS _ _ _ Tryz.func228 ?_
  conv => whnf
  repeat' (first|refine Seal.mk ?_|(refine wS ?_;(conv=>whnf);fail_if_success show False)|((first|refine opsA_step ?_|refine drawS_go ?_|refine wD (id:=7) (.quick 0 (.quick 1 (.quick 2 (.quick 3 (.quick 4 (.quick 5 (.quick 7 (.quick 9 (.quick 10 (.quick 11 (.quick 14 (.quick 15 (.quick 16 (.quick 18 (.quick 20 (.quick 21 (.quick 22 (.quick 23 (.quick 25 (.quick 29 (.quick 30 (.quick 31 (.stable 6 (.quick 8 (.stable 12 (.quick 13 (.stable 17 (.quick 19 (.stable 24 (.quick 26 (.stable 32 (.all (.step 27 (.quick 28 (.all (.step 33 .done)))))))))))))))))))))))))))))))))))) [27, 33] (by kernel_rfl) rfl ?_|apply wL (hm)|apply wL (minS _ _));conv=>whnf)|(intro _;first|omega|conv=>whnf)|(apply And.intro<;>intro _<;>first|omega|conv=>whnf)|((first|refine aLQ ?_|refine oLQ ?_|refine ⟨_,rfl,?_⟩|refine ⟨_,⟨rfl,rfl⟩,?_⟩|refine ⟨_,⟨rfl,rfl,leafQ⟩,?_⟩);conv=>whnf)|with_reducible assumption|exact lfQ|fail)
  all_goals (first | contradiction | (exfalso; omega) | (refine ⟨(),⟨⟩,?_⟩;exact fzQ))
theorem l5Edits2 (s : Scr) (r w : Nat) (h : OkS s r w) (c first n : Int) (hn : 1 ≤ n ∧ n ≤ 99999) (hc : c = 88) : CallA S 228 [.ptr (.loc 0) 20 none 0, .int .i64 c, .int .i64 first, .int .i64 n] ⟨[⟨.loc 0, true, .raw (scrC (.loc 1) (.loc 2) (.loc 3) (.loc 4) s)⟩, ⟨.loc 1, true, .arr pairE s.grid.cells⟩, ⟨.loc 2, true, .arr pairE s.grid.back⟩], 5⟩ (Ret1 (.tup []) ⟨[⟨.loc 0, true, .raw (scrC (.loc 1) (.loc 5) (.loc 3) (.loc 4) ({ s with grid := { s.grid with cells := erC s.grid.cells ((s.y.toNat * s.grid.width.toNat) + s.x.toNat) ((s.y.toNat * s.grid.width.toNat) + min s.grid.width.toNat (s.x.toNat + n.toNat)) s.attr } } : Scr))⟩, ⟨.loc 1, true, .arr pairE ({ s with grid := { s.grid with cells := erC s.grid.cells ((s.y.toNat * s.grid.width.toNat) + s.x.toNat) ((s.y.toNat * s.grid.width.toNat) + min s.grid.width.toNat (s.x.toNat + n.toNat)) s.attr } } : Scr).grid.cells⟩, ⟨.loc 5, true, .arr pairE ({ s with grid := { s.grid with cells := erC s.grid.cells ((s.y.toNat * s.grid.width.toNat) + s.x.toNat) ((s.y.toNat * s.grid.width.toNat) + min s.grid.width.toNat (s.x.toNat + n.toNat)) s.attr } } : Scr).grid.back⟩], 6⟩) := by
  have hh := h
  obtain ⟨h1, h2, h3, h4, h5, h6, h7, h8, h9, h10, h11, _⟩ := hh
  obtain ⟨y, hy⟩ := Int.eq_ofNat_of_zero_le (show 0 ≤ s.y by omega)
  obtain ⟨x, hx⟩ := Int.eq_ofNat_of_zero_le (show 0 ≤ s.x by omega)
  obtain ⟨t, ht⟩ := Int.eq_ofNat_of_zero_le (show 0 ≤ s.top by omega)
  obtain ⟨b, hb⟩ := Int.eq_ofNat_of_zero_le (show 0 ≤ s.bottom by omega)
  have e1 : s.y.toNat = y := by omega
  have e2 : s.x.toNat = x := by omega
  have e3 : s.grid.width.toNat = w := by omega
  have e4 : s.top.toNat = t := by omega
  have e5 : s.bottom.toNat = b := by omega
  have hrw : r * w ≤ 6 * 12 := Nat.mul_le_mul h1.2 h2.2
  have hi : s.y * s.grid.width = ((y * w : Nat) : Int) := by rw [hy, h4]; exact (Int.natCast_mul _ _).symm
  have hyw : (y + 1) * w = y * w + w := Nat.succ_mul y w
  have hi1 : (s.y + 1) * s.grid.width = ((y * w : Nat) : Int) + w := by rw [Int.add_mul, Int.one_mul, hi, h4]
  have hle := mul_lt_le (w := w) (show y + 1 ≤ r by omega)
  have hle2 := mul_lt_le (w := w) (show b + 1 ≤ r by omega)
  obtain ⟨k, hk⟩ := Int.eq_ofNat_of_zero_le (show 0 ≤ n by omega)
  have e6 : n.toNat = k := by omega
  have q1 : ((y * w + x : Nat) : Int) = s.y * s.grid.width + s.x := by rw [hi]; omega
  have q2 : ((y * w + min w (x + k) : Nat) : Int) = s.y * s.grid.width + min s.grid.width (s.x + n) := by rw [hi, h4, hx, hk]; omega
  have q1' := q1.symm
  have q2' := q2.symm
  have hcx := l5EditsX s r w h c first n hn hc
  rw [e1, e2, e3, e6] at hcx ⊢
  have hl := erC_len (c := s.grid.cells) (a := s.attr) (show y * w + x ≤ y * w + min w (x + k) by omega) (by omega)
  refine CallA.canon hS _ _ _ ?_
  repeat' (first|refine Seal.mk ?_|(refine wS ?_;(conv=>whnf);fail_if_success show False)|((first|refine opsA_step ?_|apply wL (hcx));conv=>whnf)|(intro _;first|omega|conv=>whnf)|(apply And.intro<;>intro _<;>first|omega|conv=>whnf)|((first|refine aLQ ?_|refine ⟨_,rfl,?_⟩|refine ⟨_,⟨rfl,rfl⟩,?_⟩|refine ⟨_,⟨rfl,rfl,leafQ⟩,?_⟩);conv=>whnf)|with_reducible assumption|exact lfQ|fail)
  all_goals (refine ⟨(),⟨⟩,?_⟩;exact fzQ)
theorem l5Edits3 (s : Scr) (r w : Nat) (h : OkS s r w) (c first n : Int) (hn : 1 ≤ n ∧ n ≤ 99999) (hc : c = 83) : CallA S 228 [.ptr (.loc 0) 20 none 0, .int .i64 c, .int .i64 first, .int .i64 n] ⟨[⟨.loc 0, true, .raw (scrC (.loc 1) (.loc 2) (.loc 3) (.loc 4) s)⟩, ⟨.loc 1, true, .arr pairE s.grid.cells⟩, ⟨.loc 2, true, .arr pairE s.grid.back⟩], 5⟩ (Ret1 (.tup []) ⟨[⟨.loc 0, true, .raw (scrC (.loc 1) (.loc 5) (.loc 3) (.loc 4) ({ s with grid := gridM s s.top.toNat s.bottom.toNat n } : Scr))⟩, ⟨.loc 1, true, .arr pairE ({ s with grid := gridM s s.top.toNat s.bottom.toNat n } : Scr).grid.cells⟩, ⟨.loc 5, true, .arr pairE ({ s with grid := gridM s s.top.toNat s.bottom.toNat n } : Scr).grid.back⟩], 6⟩) := by
  have hh := h
  obtain ⟨h1, h2, h3, h4, h5, h6, h7, h8, h9, h10, h11, _⟩ := hh
  obtain ⟨y, hy⟩ := Int.eq_ofNat_of_zero_le (show 0 ≤ s.y by omega)
  obtain ⟨x, hx⟩ := Int.eq_ofNat_of_zero_le (show 0 ≤ s.x by omega)
  obtain ⟨t, ht⟩ := Int.eq_ofNat_of_zero_le (show 0 ≤ s.top by omega)
  obtain ⟨b, hb⟩ := Int.eq_ofNat_of_zero_le (show 0 ≤ s.bottom by omega)
  have e1 : s.y.toNat = y := by omega
  have e2 : s.x.toNat = x := by omega
  have e3 : s.grid.width.toNat = w := by omega
  have e4 : s.top.toNat = t := by omega
  have e5 : s.bottom.toNat = b := by omega
  have hrw : r * w ≤ 6 * 12 := Nat.mul_le_mul h1.2 h2.2
  have hi : s.y * s.grid.width = ((y * w : Nat) : Int) := by rw [hy, h4]; exact (Int.natCast_mul _ _).symm
  have hyw : (y + 1) * w = y * w + w := Nat.succ_mul y w
  have hi1 : (s.y + 1) * s.grid.width = ((y * w : Nat) : Int) + w := by rw [Int.add_mul, Int.one_mul, hi, h4]
  have hle := mul_lt_le (w := w) (show y + 1 ≤ r by omega)
  have hle2 := mul_lt_le (w := w) (show b + 1 ≤ r by omega)
  have hm := l3Many s.grid.cells s.grid.back s.grid.rows w t b s.attr (by omega) (by omega) (by omega) (by omega) (by omega) (by omega) n (by omega)
  have hl := scC_len (c := s.grid.cells) (w := w) (t := t) (b := b) (n := n) (a := s.attr) (by omega) (by omega)
  unfold gridM
  rw [e3, e4, e5]
  refine .ofC hS _ _ _ Tryz.func228 ?_
  conv => whnf
  repeat' (first|refine Seal.mk ?_|(refine wS ?_;(conv=>whnf);fail_if_success show False)|((first|refine opsA_step ?_|refine drawS_go ?_|refine wD (id:=13) (.quick 0 (.quick 1 (.quick 2 (.quick 3 (.quick 4 (.quick 5 (.quick 7 (.quick 8 (.quick 9 (.quick 11 (.quick 12 (.quick 13 (.quick 14 (.read 6 (.read 10 (.read 15 (.all (.step 16 .done)))))))))))))))))) [16] (by kernel_rfl) rfl ?_|apply wL (hm)|apply wL (minS _ _));conv=>whnf)|(intro _;first|omega|conv=>whnf)|(apply And.intro<;>intro _<;>first|omega|conv=>whnf)|((first|refine aLQ ?_|refine ⟨_,rfl,?_⟩|refine ⟨_,⟨rfl,rfl⟩,?_⟩|refine ⟨_,⟨rfl,rfl,leafQ⟩,?_⟩);conv=>whnf)|with_reducible assumption|exact lfQ|fail)
  all_goals (first | contradiction | (exfalso; omega) | (refine ⟨(),⟨⟩,?_⟩;exact fzQ))
theorem l5Edits4 (s : Scr) (r w : Nat) (h : OkS s r w) (c first n : Int) (hn : 1 ≤ n ∧ n ≤ 99999) (hc : c = 84) : CallA S 228 [.ptr (.loc 0) 20 none 0, .int .i64 c, .int .i64 first, .int .i64 n] ⟨[⟨.loc 0, true, .raw (scrC (.loc 1) (.loc 2) (.loc 3) (.loc 4) s)⟩, ⟨.loc 1, true, .arr pairE s.grid.cells⟩, ⟨.loc 2, true, .arr pairE s.grid.back⟩], 5⟩ (Ret1 (.tup []) ⟨[⟨.loc 0, true, .raw (scrC (.loc 1) (.loc 5) (.loc 3) (.loc 4) ({ s with grid := gridM s s.top.toNat s.bottom.toNat (-n) } : Scr))⟩, ⟨.loc 1, true, .arr pairE ({ s with grid := gridM s s.top.toNat s.bottom.toNat (-n) } : Scr).grid.cells⟩, ⟨.loc 5, true, .arr pairE ({ s with grid := gridM s s.top.toNat s.bottom.toNat (-n) } : Scr).grid.back⟩], 6⟩) := by
  have hh := h
  obtain ⟨h1, h2, h3, h4, h5, h6, h7, h8, h9, h10, h11, _⟩ := hh
  obtain ⟨y, hy⟩ := Int.eq_ofNat_of_zero_le (show 0 ≤ s.y by omega)
  obtain ⟨x, hx⟩ := Int.eq_ofNat_of_zero_le (show 0 ≤ s.x by omega)
  obtain ⟨t, ht⟩ := Int.eq_ofNat_of_zero_le (show 0 ≤ s.top by omega)
  obtain ⟨b, hb⟩ := Int.eq_ofNat_of_zero_le (show 0 ≤ s.bottom by omega)
  have e1 : s.y.toNat = y := by omega
  have e2 : s.x.toNat = x := by omega
  have e3 : s.grid.width.toNat = w := by omega
  have e4 : s.top.toNat = t := by omega
  have e5 : s.bottom.toNat = b := by omega
  have hrw : r * w ≤ 6 * 12 := Nat.mul_le_mul h1.2 h2.2
  have hi : s.y * s.grid.width = ((y * w : Nat) : Int) := by rw [hy, h4]; exact (Int.natCast_mul _ _).symm
  have hyw : (y + 1) * w = y * w + w := Nat.succ_mul y w
  have hi1 : (s.y + 1) * s.grid.width = ((y * w : Nat) : Int) + w := by rw [Int.add_mul, Int.one_mul, hi, h4]
  have hle := mul_lt_le (w := w) (show y + 1 ≤ r by omega)
  have hle2 := mul_lt_le (w := w) (show b + 1 ≤ r by omega)
  have hm := l3Many s.grid.cells s.grid.back s.grid.rows w t b s.attr (by omega) (by omega) (by omega) (by omega) (by omega) (by omega) (-n) (by omega)
  have hl := scC_len (c := s.grid.cells) (w := w) (t := t) (b := b) (n := (-n)) (a := s.attr) (by omega) (by omega)
  unfold gridM
  rw [e3, e4, e5]
  refine .ofC hS _ _ _ Tryz.func228 ?_
  conv => whnf
  repeat' (first|refine Seal.mk ?_|(refine wS ?_;(conv=>whnf);fail_if_success show False)|((first|refine opsA_step ?_|refine drawS_go ?_|refine wD (id:=15) (.quick 0 (.quick 1 (.quick 2 (.quick 3 (.quick 4 (.quick 5 (.quick 7 (.quick 8 (.quick 9 (.quick 11 (.quick 12 (.quick 13 (.quick 14 (.quick 15 (.read 6 (.read 10 (.read 16 (.all (.step 17 .done))))))))))))))))))) [17] (by kernel_rfl) rfl ?_|apply wL (hm)|apply wL (minS _ _));conv=>whnf)|(intro _;first|omega|conv=>whnf)|(apply And.intro<;>intro _<;>first|omega|conv=>whnf)|((first|refine aLQ ?_|refine ⟨_,rfl,?_⟩|refine ⟨_,⟨rfl,rfl⟩,?_⟩|refine ⟨_,⟨rfl,rfl,leafQ⟩,?_⟩);conv=>whnf)|with_reducible assumption|exact lfQ|fail)
  all_goals (first | contradiction | (exfalso; omega) | (refine ⟨(),⟨⟩,?_⟩;exact fzQ))
theorem l5Edits5 (s : Scr) (r w : Nat) (h : OkS s r w) (c first n : Int) (hn : 1 ≤ n ∧ n ≤ 99999) (hc : c = 64) : CallA S 228 [.ptr (.loc 0) 20 none 0, .int .i64 c, .int .i64 first, .int .i64 n] ⟨[⟨.loc 0, true, .raw (scrC (.loc 1) (.loc 2) (.loc 3) (.loc 4) s)⟩, ⟨.loc 1, true, .arr pairE s.grid.cells⟩, ⟨.loc 2, true, .arr pairE s.grid.back⟩], 5⟩ (Ret1 (.tup []) ⟨[⟨.loc 0, true, .raw (scrC (.loc 1) (.loc 5) (.loc 3) (.loc 4) ({ s with grid := { s.grid with cells := shC s n } } : Scr))⟩, ⟨.loc 1, true, .arr pairE ({ s with grid := { s.grid with cells := shC s n } } : Scr).grid.cells⟩, ⟨.loc 5, true, .arr pairE ({ s with grid := { s.grid with cells := shC s n } } : Scr).grid.back⟩], 6⟩) := by
  have hh := h
  obtain ⟨h1, h2, h3, h4, h5, h6, h7, h8, h9, h10, h11, _⟩ := hh
  obtain ⟨y, hy⟩ := Int.eq_ofNat_of_zero_le (show 0 ≤ s.y by omega)
  obtain ⟨x, hx⟩ := Int.eq_ofNat_of_zero_le (show 0 ≤ s.x by omega)
  obtain ⟨t, ht⟩ := Int.eq_ofNat_of_zero_le (show 0 ≤ s.top by omega)
  obtain ⟨b, hb⟩ := Int.eq_ofNat_of_zero_le (show 0 ≤ s.bottom by omega)
  have e1 : s.y.toNat = y := by omega
  have e2 : s.x.toNat = x := by omega
  have e3 : s.grid.width.toNat = w := by omega
  have e4 : s.top.toNat = t := by omega
  have e5 : s.bottom.toNat = b := by omega
  have hrw : r * w ≤ 6 * 12 := Nat.mul_le_mul h1.2 h2.2
  have hi : s.y * s.grid.width = ((y * w : Nat) : Int) := by rw [hy, h4]; exact (Int.natCast_mul _ _).symm
  have hyw : (y + 1) * w = y * w + w := Nat.succ_mul y w
  have hi1 : (s.y + 1) * s.grid.width = ((y * w : Nat) : Int) + w := by rw [Int.add_mul, Int.one_mul, hi, h4]
  have hle := mul_lt_le (w := w) (show y + 1 ≤ r by omega)
  have hle2 := mul_lt_le (w := w) (show b + 1 ≤ r by omega)
  have hm := l3Shift s.grid.cells s.grid.back s.grid.rows w s.attr (by omega) y x n (by omega) (by omega) (by omega) (by omega) (by omega)
  have hl : (over s.grid.cells (y * w) (shR ((s.grid.cells.drop (y * w)).take w) x w n s.attr)).length = s.grid.cells.length := by
    unfold over
    simp only [List.length_append, List.length_take, List.length_drop, shR_len]; omega
  unfold shC
  rw [e1, e2, e3]
  refine .ofC hS _ _ _ Tryz.func228 ?_
  conv => whnf
  repeat' (first|refine Seal.mk ?_|(refine wS ?_;(conv=>whnf);fail_if_success show False)|((first|refine opsA_step ?_|refine drawS_go ?_|refine wD (id:=17) (.quick 0 (.quick 1 (.quick 2 (.quick 3 (.quick 4 (.quick 5 (.quick 7 (.quick 8 (.quick 9 (.quick 11 (.quick 12 (.quick 13 (.quick 14 (.read 6 (.read 10 (.read 15 (.all (.step 16 .done)))))))))))))))))) [16] (by kernel_rfl) rfl ?_|apply wL (hm)|apply wL (minS _ _));conv=>whnf)|(intro _;first|omega|conv=>whnf)|(apply And.intro<;>intro _<;>first|omega|conv=>whnf)|((first|refine aLQ ?_|refine ⟨_,rfl,?_⟩|refine ⟨_,⟨rfl,rfl⟩,?_⟩|refine ⟨_,⟨rfl,rfl,leafQ⟩,?_⟩);conv=>whnf)|with_reducible assumption|exact lfQ|fail)
  all_goals (first | contradiction | (exfalso; omega) | (refine ⟨(),⟨⟩,?_⟩;exact fzQ))
theorem l5Edits6 (s : Scr) (r w : Nat) (h : OkS s r w) (c first n : Int) (hn : 1 ≤ n ∧ n ≤ 99999) (hc : c = 80) : CallA S 228 [.ptr (.loc 0) 20 none 0, .int .i64 c, .int .i64 first, .int .i64 n] ⟨[⟨.loc 0, true, .raw (scrC (.loc 1) (.loc 2) (.loc 3) (.loc 4) s)⟩, ⟨.loc 1, true, .arr pairE s.grid.cells⟩, ⟨.loc 2, true, .arr pairE s.grid.back⟩], 5⟩ (Ret1 (.tup []) ⟨[⟨.loc 0, true, .raw (scrC (.loc 1) (.loc 5) (.loc 3) (.loc 4) ({ s with grid := { s.grid with cells := shC s (-n) } } : Scr))⟩, ⟨.loc 1, true, .arr pairE ({ s with grid := { s.grid with cells := shC s (-n) } } : Scr).grid.cells⟩, ⟨.loc 5, true, .arr pairE ({ s with grid := { s.grid with cells := shC s (-n) } } : Scr).grid.back⟩], 6⟩) := by
  have hh := h
  obtain ⟨h1, h2, h3, h4, h5, h6, h7, h8, h9, h10, h11, _⟩ := hh
  obtain ⟨y, hy⟩ := Int.eq_ofNat_of_zero_le (show 0 ≤ s.y by omega)
  obtain ⟨x, hx⟩ := Int.eq_ofNat_of_zero_le (show 0 ≤ s.x by omega)
  obtain ⟨t, ht⟩ := Int.eq_ofNat_of_zero_le (show 0 ≤ s.top by omega)
  obtain ⟨b, hb⟩ := Int.eq_ofNat_of_zero_le (show 0 ≤ s.bottom by omega)
  have e1 : s.y.toNat = y := by omega
  have e2 : s.x.toNat = x := by omega
  have e3 : s.grid.width.toNat = w := by omega
  have e4 : s.top.toNat = t := by omega
  have e5 : s.bottom.toNat = b := by omega
  have hrw : r * w ≤ 6 * 12 := Nat.mul_le_mul h1.2 h2.2
  have hi : s.y * s.grid.width = ((y * w : Nat) : Int) := by rw [hy, h4]; exact (Int.natCast_mul _ _).symm
  have hyw : (y + 1) * w = y * w + w := Nat.succ_mul y w
  have hi1 : (s.y + 1) * s.grid.width = ((y * w : Nat) : Int) + w := by rw [Int.add_mul, Int.one_mul, hi, h4]
  have hle := mul_lt_le (w := w) (show y + 1 ≤ r by omega)
  have hle2 := mul_lt_le (w := w) (show b + 1 ≤ r by omega)
  have hm := l3Shift s.grid.cells s.grid.back s.grid.rows w s.attr (by omega) y x (-n) (by omega) (by omega) (by omega) (by omega) (by omega)
  have hl : (over s.grid.cells (y * w) (shR ((s.grid.cells.drop (y * w)).take w) x w (-n) s.attr)).length = s.grid.cells.length := by
    unfold over
    simp only [List.length_append, List.length_take, List.length_drop, shR_len]; omega
  unfold shC
  rw [e1, e2, e3]
  refine .ofC hS _ _ _ Tryz.func228 ?_
  conv => whnf
  repeat' (first|refine Seal.mk ?_|(refine wS ?_;(conv=>whnf);fail_if_success show False)|((first|refine opsA_step ?_|refine drawS_go ?_|refine wD (id:=19) (.quick 0 (.quick 1 (.quick 2 (.quick 3 (.quick 4 (.quick 5 (.quick 7 (.quick 8 (.quick 9 (.quick 11 (.quick 12 (.quick 13 (.quick 14 (.quick 15 (.read 6 (.read 10 (.read 16 (.all (.step 17 .done))))))))))))))))))) [17] (by kernel_rfl) rfl ?_|apply wL (hm)|apply wL (minS _ _));conv=>whnf)|(intro _;first|omega|conv=>whnf)|(apply And.intro<;>intro _<;>first|omega|conv=>whnf)|((first|refine aLQ ?_|refine ⟨_,rfl,?_⟩|refine ⟨_,⟨rfl,rfl⟩,?_⟩|refine ⟨_,⟨rfl,rfl,leafQ⟩,?_⟩);conv=>whnf)|with_reducible assumption|exact lfQ|fail)
  all_goals (first | contradiction | (exfalso; omega) | (refine ⟨(),⟨⟩,?_⟩;exact fzQ))
theorem l5Edits9 (s : Scr) (r w : Nat) (h : OkS s r w) (c first n : Int) (hn : 1 ≤ n ∧ n ≤ 99999) (hc : ¬ c = 74 ∧ ¬ c = 75 ∧ ¬ c = 88 ∧ ¬ c = 76 ∧ ¬ c = 77 ∧ ¬ c = 83 ∧ ¬ c = 84 ∧ ¬ c = 64 ∧ ¬ c = 80) : CallA S 228 [.ptr (.loc 0) 20 none 0, .int .i64 c, .int .i64 first, .int .i64 n] ⟨[⟨.loc 0, true, .raw (scrC (.loc 1) (.loc 2) (.loc 3) (.loc 4) s)⟩, ⟨.loc 1, true, .arr pairE s.grid.cells⟩, ⟨.loc 2, true, .arr pairE s.grid.back⟩], 5⟩ (Ret1 (.tup []) ⟨[⟨.loc 0, true, .raw (scrC (.loc 1) (.loc 5) (.loc 3) (.loc 4) (s : Scr))⟩, ⟨.loc 1, true, .arr pairE (s : Scr).grid.cells⟩, ⟨.loc 5, true, .arr pairE (s : Scr).grid.back⟩], 6⟩) := by
  refine .ofC hS _ _ _ Tryz.func228 ?_
  conv => whnf
  repeat' (first|refine Seal.mk ?_|(refine wS ?_;(conv=>whnf);fail_if_success show False)|((first|refine opsA_step ?_);conv=>whnf)|(intro _;first|omega|conv=>whnf)|(apply And.intro<;>intro _<;>first|omega|conv=>whnf)|((first|refine aLQ ?_|refine ⟨_,rfl,?_⟩|refine ⟨_,⟨rfl,rfl⟩,?_⟩|refine ⟨_,⟨rfl,rfl,leafQ⟩,?_⟩);conv=>whnf)|with_reducible assumption|exact lfQ|fail)
  all_goals (first | contradiction | (exfalso; omega) | (refine ⟨(),⟨⟩,?_⟩;exact fzQ))
end Go.Mu
