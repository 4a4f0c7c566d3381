/- Screens, as the reference prints on them: in one. -/
import Derived.Test.YtfjodggmmokaaaaGreatDAK
import Derived.Test.YtfjodggmmokaaaaGreatDBJ
import Derived.Test.YtfjodggmmokaaaaGreatDBT
set_option linter.unusedSimpArgs false
set_option linter.unusedVariables false
set_option linter.constructorNameAsVariable false
namespace Go.Mu
open Go Go.Vm Go.RowKit Go.Proofs
attribute [local irreducible] wpA opsA stillA drawA drawS
set_option maxRecDepth 20000
set_option maxHeartbeats 40000000
theorem l5Print (s : Scr) (r w : Nat) (h : OkS s r w) (c : Int) (hc : 0 ≤ c ∧ c ≤ 1114111) : CallA S 137 [.ptr (.loc 0) 20 none 0, .int .i64 c] ⟨[⟨.loc 0, true, .raw (scrC (.loc 1) (.loc 2) (.loc 3) (.loc 4) s)⟩, ⟨.loc 1, true, .arr pairE s.grid.cells⟩, ⟨.loc 2, true, .arr pairE s.grid.back⟩, ⟨.loc 4, false, .arr (intE .i64) s.sets⟩], 5⟩ (Ret1 (.tup []) ⟨[⟨.loc 0, true, .raw (scrC (.loc 1) (.loc 5) (.loc 3) (.loc 4) (printM s c : Scr))⟩, ⟨.loc 1, true, .arr pairE (printM s c : Scr).grid.cells⟩, ⟨.loc 5, true, .arr pairE (printM s c : Scr).grid.back⟩], 6⟩) := by
  have hsl : s.sets.length = 2 := h.sets
  have hdn := l5Down { s with x := 0 } r w (x0_ok h)
  obtain ⟨s1, hs1⟩ : ∃ s1, s1 = if s.wrap = true then downM { s with x := 0 } else s := ⟨_, rfl⟩
  have hpm : printM s c = printT s1 c := by
    unfold printM; rw [hs1]
    split <;> rfl
  have hk1 : OkS s1 r w := by
    rw [hs1]
    split
    · exact downM_ok (x0_ok h)
    · exact h
  have hss : s1.sets.length = s.sets.length := by
    rw [hs1]
    split
    · rw [downM_sets]
    · rfl
  have hss' : s1.sets = s.sets := by
    rw [hs1]
    split
    · rw [downM_sets]
    · rfl
  have w1 : s.wrap = true → downM { s with x := 0 } = s1 := fun q => by rw [hs1, if_pos q]
  have w2 : ¬ s.wrap = true → s = s1 := fun q => by rw [hs1, if_neg q]
  clear hs1
  rw [hpm]
  refine .ofC hS _ _ _ Tryz.func137 ?_
  conv => whnf
  repeat' (first|refine Seal.mk ?_|((fail_if_success with_reducible refine wC ?_);refine wS ?_;(conv=>whnf);fail_if_success show False)|((first|refine opsA_step ?_|refine drawS_go ?_);conv=>whnf)|(intro _;first|omega|conv=>whnf)|(apply And.intro<;>intro _<;>first|omega|conv=>whnf)|((first|refine aLQ ?_|refine oLQ ?_|refine ⟨_,rfl,?_⟩|refine ⟨_,⟨rfl,rfl⟩,?_⟩|refine ⟨_,⟨rfl,rfl,leafQ⟩,?_⟩);conv=>whnf)|with_reducible assumption|exact lfQ|fail)
  refine .cut hS (γ := Unit) (fun _ => ⟨[(0, .ptr (.loc 0) 20 none 0), (1, .int .i64 c)], ⟨[⟨.loc 0, true, .raw (scrC (.loc 1) (.loc 5) (.loc 3) (.loc 4) s1)⟩, ⟨.loc 1, true, .arr pairE s1.grid.cells⟩, ⟨.loc 5, true, .arr pairE s1.grid.back⟩, ⟨.loc 4, false, .arr (intE .i64) s.sets⟩], 6⟩, 99, 5⟩) (fun _ => True) ?_ ?_
  · repeat' (first|refine Seal.mk ?_|(refine wS ?_;(conv=>whnf);fail_if_success show False)|((first|refine opsA_step ?_|refine drawS_go ?_|apply wL (hdn));conv=>whnf)|(intro _;first|omega|conv=>whnf)|(apply And.intro<;>intro _<;>first|omega|conv=>whnf)|((first|refine aLQ ?_|refine oLQ ?_|refine ⟨_,rfl,?_⟩|refine ⟨_,⟨rfl,rfl⟩,?_⟩|refine ⟨_,⟨rfl,rfl,leafQ⟩,?_⟩);conv=>whnf)|with_reducible assumption|exact lfQ|fail)
    · rename_i q
      rw [← w1 (by assumption)]
      (refine ⟨(),⟨⟩,?_⟩;exact fzQ)
    · rename_i q
      rw [← w2 q]
      (refine ⟨(),⟨⟩,?_⟩;exact fzQ)
  · rintro ⟨⟩ -
    have h7 := hk1.y; have h8 := hk1.x; have h4 := hk1.width; have h1 := hk1.hr; have h2 := hk1.hw
    obtain ⟨y, hy⟩ := Int.eq_ofNat_of_zero_le (show 0 ≤ s1.y by omega)
    obtain ⟨x, hx⟩ := Int.eq_ofNat_of_zero_le (show 0 ≤ s1.x by omega)
    have e1 : s1.y.toNat = y := by omega
    have e2 : s1.x.toNat = x := by omega
    have e3 : s1.grid.width.toNat = w := by omega
    have hcl := hk1.cells
    obtain ⟨-, a1, a2, a3⟩ := atM hk1
    have h10 := hk1.attr; have h14 := hk1.shift
    have hrw : r * w ≤ 6 * 12 := Nat.mul_le_mul h1.2 h2.2
    have hyw : (y + 1) * w = y * w + w := Nat.succ_mul y w
    have hle := mul_lt_le (w := w) (show y + 1 ≤ r by omega)
    rw [e1, e2] at a1
    obtain ⟨cs, hcs⟩ : ∃ cs, cs = insM s1 := ⟨_, rfl⟩
    have hcsl : cs.length = s1.grid.cells.length := by
      rw [hcs]; unfold insM
      split
      · exact (shC_len hk1 1).trans hcl.symm
      · rfl
    have i1 : s1.insert = true → cs = over s1.grid.cells (y * w) (shR ((s1.grid.cells.drop (y * w)).take w) x w 1 s1.attr) := fun q => by
      rw [hcs]; unfold insM shC; rw [if_pos q, e1, e2, e3]
    have i2 : ¬ s1.insert = true → s1.grid.cells = cs := fun q => by rw [hcs]; unfold insM; rw [if_neg q]
    obtain ⟨ch, hch⟩ : ∃ ch, ch = chM s1 c := ⟨_, rfl⟩
    have c1 : c < 128 → trM (s.sets.getD s1.shift.toNat (intE .i64).d) c = ch := fun q => by rw [hch]; unfold chM; rw [if_pos q, hss']; rfl
    have c2 : ¬ c < 128 → c = ch := fun q => by rw [hch]; unfold chM; rw [if_neg q]
    conv => whnf
    repeat' (first|refine Seal.mk ?_|((fail_if_success with_reducible refine wC ?_);refine wS ?_;(conv=>whnf);fail_if_success show False)|((first|refine opsA_step ?_|refine drawS_go ?_);conv=>whnf)|(intro _;first|omega|conv=>whnf)|(apply And.intro<;>intro _<;>first|omega|conv=>whnf)|((first|refine aLQ ?_|refine oLQ ?_|refine ⟨_,rfl,?_⟩|refine ⟨_,⟨rfl,rfl⟩,?_⟩|refine ⟨_,⟨rfl,rfl,leafQ⟩,?_⟩);conv=>whnf)|with_reducible assumption|exact lfQ|fail)
    refine .cut hS (γ := Unit) (fun _ => ⟨[(0, .ptr (.loc 0) 20 none 0), (1, .int .i64 ch)], ⟨[⟨.loc 0, true, .raw (scrC (.loc 1) (.loc 5) (.loc 3) (.loc 4) s1)⟩, ⟨.loc 1, true, .arr pairE s1.grid.cells⟩, ⟨.loc 5, true, .arr pairE s1.grid.back⟩, ⟨.loc 4, false, .arr (intE .i64) s.sets⟩], 6⟩, 99, 5⟩) (fun _ => True) ?_ ?_
    · by_cases q : c < 128
      · have c1' := c1 q
        repeat' (first|refine Seal.mk ?_|(refine wS ?_;(conv=>whnf);fail_if_success show False)|((first|refine opsA_step ?_|refine drawS_go ?_|refine wD (id:=4) (.quick 0 (.quick 1 (.quick 2 (.quick 4 (.quick 5 (.quick 6 (.quick 10 (.read 3 (.read 7 (.quick 8 (.read 9 (.all (.step 11 (.quick 12 .done)))))))))))))) [11] (by kernel_rfl) rfl ?_|apply wL (l2Translate _ _ hc));conv=>whnf)|(intro _;first|omega|conv=>whnf)|(apply And.intro<;>intro _<;>first|omega|conv=>whnf)|((first|refine aLQ ?_|refine oLQ ?_|refine ⟨_,rfl,?_⟩|refine ⟨_,⟨rfl,rfl⟩,?_⟩|refine ⟨_,⟨rfl,rfl,leafQ⟩,?_⟩);conv=>whnf)|with_reducible assumption|exact lfQ|fail)
        all_goals (first | contradiction | (exfalso; omega) | (refine ⟨(),⟨⟩,?_⟩;exact fzQ))
      · have c2' := c2 q
        repeat' (first|refine Seal.mk ?_|(refine wS ?_;(conv=>whnf);fail_if_success show False)|((first|refine opsA_step ?_|refine drawS_go ?_);conv=>whnf)|(intro _;first|omega|conv=>whnf)|(apply And.intro<;>intro _<;>first|omega|conv=>whnf)|((first|refine aLQ ?_|refine oLQ ?_|refine ⟨_,rfl,?_⟩|refine ⟨_,⟨rfl,rfl⟩,?_⟩|refine ⟨_,⟨rfl,rfl,leafQ⟩,?_⟩);conv=>whnf)|with_reducible assumption|exact lfQ|fail)
        all_goals (first | contradiction | (refine ⟨(),⟨⟩,?_⟩;exact fzQ))
    · rintro ⟨⟩ -
      conv => whnf
      repeat' (first|refine Seal.mk ?_|((fail_if_success with_reducible refine wC ?_);refine wS ?_;(conv=>whnf);fail_if_success show False)|((first|refine opsA_step ?_|refine drawS_go ?_);conv=>whnf)|(intro _;first|omega|conv=>whnf)|(apply And.intro<;>intro _<;>first|omega|conv=>whnf)|((first|refine aLQ ?_|refine oLQ ?_|refine ⟨_,rfl,?_⟩|refine ⟨_,⟨rfl,rfl⟩,?_⟩|refine ⟨_,⟨rfl,rfl,leafQ⟩,?_⟩);conv=>whnf)|with_reducible assumption|exact lfQ|fail)
      refine .cut hS (γ := Unit) (fun _ => ⟨[(0, .ptr (.loc 0) 20 none 0), (1, .int .i64 ch)], ⟨[⟨.loc 0, true, .raw (scrC (.loc 1) (.loc 5) (.loc 3) (.loc 4) s1)⟩, ⟨.loc 1, true, .arr pairE cs⟩, ⟨.loc 5, true, .arr pairE s1.grid.back⟩, ⟨.loc 4, false, .arr (intE .i64) s.sets⟩], 6⟩, 99, 5⟩) (fun _ => True) ?_ ?_
      · by_cases q : s1.insert = true
        · have hm := l3Shift s1.grid.cells s1.grid.back s1.grid.rows w s1.attr (by omega) y x 1 (by omega) (by omega) (by omega) (by omega) (by omega)
          rw [← i1 q] at hm
          repeat' (first|refine Seal.mk ?_|(refine wS ?_;(conv=>whnf);fail_if_success show False)|((first|refine opsA_step ?_|refine drawS_go ?_|refine wD (id:=6) (.quick 0 (.quick 1 (.quick 2 (.quick 3 (.quick 4 (.quick 5 (.quick 7 (.quick 8 (.quick 9 (.quick 11 (.quick 12 (.quick 13 (.read 6 (.read 10 (.read 14 (.all (.step 15 .done))))))))))))))))) [15] (by kernel_rfl) rfl ?_|apply wL (hm));conv=>whnf)|(intro _;first|omega|conv=>whnf)|(apply And.intro<;>intro _<;>first|omega|conv=>whnf)|((first|refine aLQ ?_|refine oLQ ?_|refine ⟨_,rfl,?_⟩|refine ⟨_,⟨rfl,rfl⟩,?_⟩|refine ⟨_,⟨rfl,rfl,leafQ⟩,?_⟩);conv=>whnf)|with_reducible assumption|exact lfQ|fail)
          all_goals (first | contradiction | (refine ⟨(),⟨⟩,?_⟩;exact fzQ))
        · rw [← i2 q]
          repeat' (first|refine Seal.mk ?_|(refine wS ?_;(conv=>whnf);fail_if_success show False)|((first|refine opsA_step ?_|refine drawS_go ?_);conv=>whnf)|(intro _;first|omega|conv=>whnf)|(apply And.intro<;>intro _<;>first|omega|conv=>whnf)|((first|refine aLQ ?_|refine oLQ ?_|refine ⟨_,rfl,?_⟩|refine ⟨_,⟨rfl,rfl⟩,?_⟩|refine ⟨_,⟨rfl,rfl,leafQ⟩,?_⟩);conv=>whnf)|with_reducible assumption|exact lfQ|fail)
          all_goals (first | contradiction | (refine ⟨(),⟨⟩,?_⟩;exact fzQ))
      · rintro ⟨⟩ -
        have hi : s1.y * s1.grid.width = ((y * w : Nat) : Int) := by rw [hy, h4]; exact (Int.natCast_mul _ _).symm
        have eat : (s1.y * s1.grid.width + s1.x).toNat = y * w + x := by rw [hi]; omega
        have hpu : putM s1 c = cs.set (y * w + x) (ch, s1.attr) := by unfold putM; rw [← hcs, ← hch, e1, e2, e3]
        have hset : (cs.set (y * w + x) (ch, s1.attr)).length = s1.grid.cells.length := by rw [List.length_set, hcsl]
        have ean : ((y * w + x : Nat) : Int).toNat = y * w + x := Int.toNat_natCast _
        have z1 : s1.x < s1.grid.width - 1 → printT s1 c = { s1 with grid := { s1.grid with cells := cs.set (y * w + x) (ch, s1.attr) }, x := s1.x + 1 } := fun q => by unfold printT; rw [if_pos q, hpu]
        have z2 : ¬ s1.x < s1.grid.width - 1 → printT s1 c = { s1 with grid := { s1.grid with cells := cs.set (y * w + x) (ch, s1.attr) }, wrap := s1.autow } := fun q => by unfold printT; rw [if_neg q, hpu]
        conv => whnf
        repeat' (first|refine Seal.mk ?_|(refine wS ?_;(conv=>whnf);fail_if_success show False)|((first|refine opsA_step ?_|refine drawS_go ?_|refine wD (id:=7) (.quick 0 (.quick 1 (.quick 2 (.quick 3 (.quick 5 (.quick 6 (.quick 7 (.quick 9 (.quick 10 (.quick 11 (.quick 12 (.quick 15 (.quick 16 (.quick 17 (.quick 20 (.quick 21 (.quick 22 (.quick 23 (.read 4 (.read 8 (.read 13 (.quick 14 (.read 18 (.quick 19 (.read 24 (.quick 25 (.quick 26 (.all (.step 27 .done))))))))))))))))))))))))))))) [27] (by kernel_rfl) rfl ?_|refine wD (id:=8) (.quick 0 (.quick 1 (.quick 2 (.quick 4 (.quick 5 (.quick 6 (.quick 7 (.read 3 (.read 8 (.quick 9 (.quick 10 .done))))))))))) [] (by kernel_rfl) rfl ?_);conv=>whnf)|(intro _;first|omega|conv=>whnf)|(apply And.intro<;>intro _<;>first|omega|conv=>whnf)|((first|refine aLQ ?_|refine oLQ ?_|refine ⟨_,rfl,?_⟩|refine ⟨_,⟨rfl,rfl⟩,?_⟩|refine ⟨_,⟨rfl,rfl,leafQ⟩,?_⟩);conv=>whnf)|with_reducible assumption|exact lfQ|fail)
        all_goals (first | (rw [z1 (by assumption)]; (try rw [eat]); (refine ⟨(),⟨⟩,?_⟩;exact fzQ)) | (rw [z2 (by assumption)]; (try rw [eat]); (refine ⟨(),⟨⟩,?_⟩;exact fzQ)))
end Go.Mu

namespace Go.Mu
open Go Go.Vm Go.RowKit Go.Proofs
attribute [local irreducible] wpA opsA stillA drawA drawS
set_option maxRecDepth 20000
set_option maxHeartbeats 40000000
theorem l5Do0 (s : Scr) (r w : Nat) (h : OkS s r w) (a : Vm.Act) (ha : ActOk a) (hc : a.kind = 1) : CallA S 60 [.ptr (.loc 0) 20 none 0, .ptr (.loc 5) 5 none 0] ⟨[⟨.loc 0, true, .raw (scrC (.loc 1) (.loc 2) (.loc 3) (.loc 4) s)⟩, ⟨.loc 1, true, .arr pairE s.grid.cells⟩, ⟨.loc 2, true, .arr pairE s.grid.back⟩, ⟨.loc 3, true, .arr boolE s.tabs⟩, ⟨.loc 4, true, .arr (intE .i64) s.sets⟩, ⟨.loc 5, false, .raw [.int .i64 a.kind, .int .i64 a.char, .int .i64 a.set, .prop (a.priv = true), .sl (.loc 6) 1 none a.params.length]⟩, ⟨.loc 6, false, .arr (intE .i64) a.params⟩], 7⟩ (Ret1 (.tup []) ⟨[⟨.loc 0, true, .raw (scrC (.loc 7) (.loc 8) (.loc 9) (.loc 10) (printM s a.char : Scr))⟩, ⟨.loc 7, true, .arr pairE (printM s a.char : Scr).grid.cells⟩, ⟨.loc 8, true, .arr pairE (printM s a.char : Scr).grid.back⟩, ⟨.loc 9, true, .arr boolE (printM s a.char : Scr).tabs⟩, ⟨.loc 10, true, .arr (intE .i64) (printM s a.char : Scr).sets⟩], 11⟩) := by
  have hcl := l5Print s r w h a.char (ha.print hc)
  obtain ⟨r1, r2⟩ := printM_rest s a.char
  have r1' := r1.symm
  have r2' := r2.symm
  have l1 : (printM s a.char).tabs.length = s.tabs.length := by rw [r1]
  have l2 : (printM s a.char).sets.length = s.sets.length := by rw [r2]
  generalize printM s a.char = s1 at *
  refine .ofC hS _ _ _ Tryz.func60 ?_
  conv => whnf
  repeat' (first|refine Seal.mk ?_|(refine wS ?_;(conv=>whnf);fail_if_success show False)|((first|refine opsA_step ?_|apply wL (hcl));conv=>whnf)|(intro _;first|omega|conv=>whnf)|(apply And.intro<;>intro _<;>first|omega|conv=>whnf)|((first|refine aLQ ?_|refine ⟨_,rfl,?_⟩|refine ⟨_,⟨rfl,rfl⟩,?_⟩|refine ⟨_,⟨rfl,rfl,leafQ⟩,?_⟩);conv=>whnf)|with_reducible assumption|exact lfQ|fail)
  all_goals (first | contradiction | (exfalso; omega) | (refine ⟨(),⟨⟩,?_⟩;exact fzQ))
theorem l5Do1 (s : Scr) (r w : Nat) (h : OkS s r w) (a : Vm.Act) (ha : ActOk a) (hc : a.kind = 2) : CallA S 60 [.ptr (.loc 0) 20 none 0, .ptr (.loc 5) 5 none 0] ⟨[⟨.loc 0, true, .raw (scrC (.loc 1) (.loc 2) (.loc 3) (.loc 4) s)⟩, ⟨.loc 1, true, .arr pairE s.grid.cells⟩, ⟨.loc 2, true, .arr pairE s.grid.back⟩, ⟨.loc 3, true, .arr boolE s.tabs⟩, ⟨.loc 4, true, .arr (intE .i64) s.sets⟩, ⟨.loc 5, false, .raw [.int .i64 a.kind, .int .i64 a.char, .int .i64 a.set, .prop (a.priv = true), .sl (.loc 6) 1 none a.params.length]⟩, ⟨.loc 6, false, .arr (intE .i64) a.params⟩], 7⟩ (Ret1 (.tup []) ⟨[⟨.loc 0, true, .raw (scrC (.loc 7) (.loc 8) (.loc 9) (.loc 10) (ctlM s a.char : Scr))⟩, ⟨.loc 7, true, .arr pairE (ctlM s a.char : Scr).grid.cells⟩, ⟨.loc 8, true, .arr pairE (ctlM s a.char : Scr).grid.back⟩, ⟨.loc 9, true, .arr boolE (ctlM s a.char : Scr).tabs⟩, ⟨.loc 10, true, .arr (intE .i64) (ctlM s a.char : Scr).sets⟩], 11⟩) := by
  have hcl := l5Control s r w h a.char
  obtain ⟨r1, r2⟩ := ctlM_rest s a.char
  have r1' := r1.symm
  have r2' := r2.symm
  have l1 : (ctlM s a.char).tabs.length = s.tabs.length := by rw [r1]
  have l2 : (ctlM s a.char).sets.length = s.sets.length := by rw [r2]
  generalize ctlM s a.char = s1 at *
  refine .ofC hS _ _ _ Tryz.func60 ?_
  conv => whnf
  repeat' (first|refine Seal.mk ?_|(refine wS ?_;(conv=>whnf);fail_if_success show False)|((first|refine opsA_step ?_|apply wL (hcl));conv=>whnf)|(intro _;first|omega|conv=>whnf)|(apply And.intro<;>intro _<;>first|omega|conv=>whnf)|((first|refine aLQ ?_|refine ⟨_,rfl,?_⟩|refine ⟨_,⟨rfl,rfl⟩,?_⟩|refine ⟨_,⟨rfl,rfl,leafQ⟩,?_⟩);conv=>whnf)|with_reducible assumption|exact lfQ|fail)
  all_goals (first | contradiction | (exfalso; omega) | (refine ⟨(),⟨⟩,?_⟩;exact fzQ))
theorem l5Do2 (s : Scr) (r w : Nat) (h : OkS s r w) (a : Vm.Act) (ha : ActOk a) (hc : a.kind = 3) : CallA S 60 [.ptr (.loc 0) 20 none 0, .ptr (.loc 5) 5 none 0] ⟨[⟨.loc 0, true, .raw (scrC (.loc 1) (.loc 2) (.loc 3) (.loc 4) s)⟩, ⟨.loc 1, true, .arr pairE s.grid.cells⟩, ⟨.loc 2, true, .arr pairE s.grid.back⟩, ⟨.loc 3, true, .arr boolE s.tabs⟩, ⟨.loc 4, true, .arr (intE .i64) s.sets⟩, ⟨.loc 5, false, .raw [.int .i64 a.kind, .int .i64 a.char, .int .i64 a.set, .prop (a.priv = true), .sl (.loc 6) 1 none a.params.length]⟩, ⟨.loc 6, false, .arr (intE .i64) a.params⟩], 7⟩ (Ret1 (.tup []) ⟨[⟨.loc 0, true, .raw (scrC (.loc 7) (.loc 8) (.loc 9) (.loc 10) (escM s a.char : Scr))⟩, ⟨.loc 7, true, .arr pairE (escM s a.char : Scr).grid.cells⟩, ⟨.loc 8, true, .arr pairE (escM s a.char : Scr).grid.back⟩, ⟨.loc 9, true, .arr boolE (escM s a.char : Scr).tabs⟩, ⟨.loc 10, true, .arr (intE .i64) (escM s a.char : Scr).sets⟩], 11⟩) := by
  have hcl := l5Escape s r w h a.char
  generalize escM s a.char = s1 at *
  refine .ofC hS _ _ _ Tryz.func60 ?_
  conv => whnf
  repeat' (first|refine Seal.mk ?_|(refine wS ?_;(conv=>whnf);fail_if_success show False)|((first|refine opsA_step ?_|apply wL (hcl));conv=>whnf)|(intro _;first|omega|conv=>whnf)|(apply And.intro<;>intro _<;>first|omega|conv=>whnf)|((first|refine aLQ ?_|refine ⟨_,rfl,?_⟩|refine ⟨_,⟨rfl,rfl⟩,?_⟩|refine ⟨_,⟨rfl,rfl,leafQ⟩,?_⟩);conv=>whnf)|with_reducible assumption|exact lfQ|fail)
  all_goals (first | contradiction | (exfalso; omega) | (refine ⟨(),⟨⟩,?_⟩;exact fzQ))
theorem l5Do3 (s : Scr) (r w : Nat) (h : OkS s r w) (a : Vm.Act) (ha : ActOk a) (hc : a.kind = 5) : CallA S 60 [.ptr (.loc 0) 20 none 0, .ptr (.loc 5) 5 none 0] ⟨[⟨.loc 0, true, .raw (scrC (.loc 1) (.loc 2) (.loc 3) (.loc 4) s)⟩, ⟨.loc 1, true, .arr pairE s.grid.cells⟩, ⟨.loc 2, true, .arr pairE s.grid.back⟩, ⟨.loc 3, true, .arr boolE s.tabs⟩, ⟨.loc 4, true, .arr (intE .i64) s.sets⟩, ⟨.loc 5, false, .raw [.int .i64 a.kind, .int .i64 a.char, .int .i64 a.set, .prop (a.priv = true), .sl (.loc 6) 1 none a.params.length]⟩, ⟨.loc 6, false, .arr (intE .i64) a.params⟩], 7⟩ (Ret1 (.tup []) ⟨[⟨.loc 0, true, .raw (scrC (.loc 7) (.loc 8) (.loc 9) (.loc 10) (setM s a.set a.char : Scr))⟩, ⟨.loc 7, true, .arr pairE (setM s a.set a.char : Scr).grid.cells⟩, ⟨.loc 8, true, .arr pairE (setM s a.set a.char : Scr).grid.back⟩, ⟨.loc 9, true, .arr boolE (setM s a.set a.char : Scr).tabs⟩, ⟨.loc 10, true, .arr (intE .i64) (setM s a.set a.char : Scr).sets⟩], 11⟩) := by
  have hcl := l5Set s a.set a.char h.sets (ha.set hc)
  have l2 : (setM s a.set a.char).sets.length = s.sets.length := (setM_ok h _ _).sets.trans h.sets.symm
  obtain ⟨r1, r2⟩ := setM_rest s a.set a.char
  have r1' := r1.symm
  have l1 : (setM s a.set a.char).tabs.length = s.tabs.length := by rw [r1]
  have n2 : (setM s a.set a.char).grid.cells = s.grid.cells := by rw [r2]
  have n3 : (setM s a.set a.char).grid.back = s.grid.back := by rw [r2]
  have n2' := n2.symm
  have n3' := n3.symm
  have n4 : (setM s a.set a.char).grid.back.length = s.grid.back.length := by rw [n3]
  have n5 : (setM s a.set a.char).grid.cells.length = s.grid.cells.length := by rw [n2]
  generalize setM s a.set a.char = s1 at *
  refine .ofC hS _ _ _ Tryz.func60 ?_
  conv => whnf
  repeat' (first|refine Seal.mk ?_|(refine wS ?_;(conv=>whnf);fail_if_success show False)|((first|refine opsA_step ?_|refine drawS_go ?_|refine wD (id:=8) (.quick 0 (.quick 1 (.quick 2 (.quick 3 (.quick 5 (.quick 6 (.quick 7 (.read 4 (.read 8 (.all (.step 9 .done))))))))))) [9] (by kernel_rfl) rfl ?_|apply wL (hcl));conv=>whnf)|(intro _;first|omega|conv=>whnf)|(apply And.intro<;>intro _<;>first|omega|conv=>whnf)|((first|refine aLQ ?_|refine ⟨_,rfl,?_⟩|refine ⟨_,⟨rfl,rfl⟩,?_⟩|refine ⟨_,⟨rfl,rfl,leafQ⟩,?_⟩);conv=>whnf)|with_reducible assumption|exact lfQ|fail)
  all_goals (first | contradiction | (exfalso; omega) | (refine ⟨(),⟨⟩,?_⟩;exact fzQ))
theorem l5Do4 (s : Scr) (r w : Nat) (h : OkS s r w) (a : Vm.Act) (ha : ActOk a) (hc : a.kind = 4) : CallA S 60 [.ptr (.loc 0) 20 none 0, .ptr (.loc 5) 5 none 0] ⟨[⟨.loc 0, true, .raw (scrC (.loc 1) (.loc 2) (.loc 3) (.loc 4) s)⟩, ⟨.loc 1, true, .arr pairE s.grid.cells⟩, ⟨.loc 2, true, .arr pairE s.grid.back⟩, ⟨.loc 3, true, .arr boolE s.tabs⟩, ⟨.loc 4, true, .arr (intE .i64) s.sets⟩, ⟨.loc 5, false, .raw [.int .i64 a.kind, .int .i64 a.char, .int .i64 a.set, .prop (a.priv = true), .sl (.loc 6) 1 none a.params.length]⟩, ⟨.loc 6, false, .arr (intE .i64) a.params⟩], 7⟩ (Ret1 (.tup []) ⟨[⟨.loc 0, true, .raw (scrC (.loc 7) (.loc 8) (.loc 9) (.loc 10) (paramsM s w a : Scr))⟩, ⟨.loc 7, true, .arr pairE (paramsM s w a : Scr).grid.cells⟩, ⟨.loc 8, true, .arr pairE (paramsM s w a : Scr).grid.back⟩, ⟨.loc 9, true, .arr boolE (paramsM s w a : Scr).tabs⟩, ⟨.loc 10, true, .arr (intE .i64) (paramsM s w a : Scr).sets⟩], 11⟩) := by
  have hcl := l5Params s r w h a (ha.params hc).1 (ha.params hc).2
  have r2 := paramsM_sets s w a
  have r2' := r2.symm
  have l2 : (paramsM s w a).sets.length = s.sets.length := by rw [r2]
  generalize paramsM s w a = s1 at *
  refine .ofC hS _ _ _ Tryz.func60 ?_
  conv => whnf
  repeat' (first|refine Seal.mk ?_|(refine wS ?_;(conv=>whnf);fail_if_success show False)|((first|refine opsA_step ?_|apply wL (hcl));conv=>whnf)|(intro _;first|omega|conv=>whnf)|(apply And.intro<;>intro _<;>first|omega|conv=>whnf)|((first|refine aLQ ?_|refine ⟨_,rfl,?_⟩|refine ⟨_,⟨rfl,rfl⟩,?_⟩|refine ⟨_,⟨rfl,rfl,leafQ⟩,?_⟩);conv=>whnf)|with_reducible assumption|exact lfQ|fail)
  all_goals (first | contradiction | (exfalso; omega) | (refine ⟨(),⟨⟩,?_⟩;exact fzQ))
theorem l5Do5 (s : Scr) (r w : Nat) (h : OkS s r w) (a : Vm.Act) (ha : ActOk a) (hc : ¬ a.kind = 1 ∧ ¬ a.kind = 2 ∧ ¬ a.kind = 3 ∧ ¬ a.kind = 5 ∧ ¬ a.kind = 4) : CallA S 60 [.ptr (.loc 0) 20 none 0, .ptr (.loc 5) 5 none 0] ⟨[⟨.loc 0, true, .raw (scrC (.loc 1) (.loc 2) (.loc 3) (.loc 4) s)⟩, ⟨.loc 1, true, .arr pairE s.grid.cells⟩, ⟨.loc 2, true, .arr pairE s.grid.back⟩, ⟨.loc 3, true, .arr boolE s.tabs⟩, ⟨.loc 4, true, .arr (intE .i64) s.sets⟩, ⟨.loc 5, false, .raw [.int .i64 a.kind, .int .i64 a.char, .int .i64 a.set, .prop (a.priv = true), .sl (.loc 6) 1 none a.params.length]⟩, ⟨.loc 6, false, .arr (intE .i64) a.params⟩], 7⟩ (Ret1 (.tup []) ⟨[⟨.loc 0, true, .raw (scrC (.loc 7) (.loc 8) (.loc 9) (.loc 10) (s : Scr))⟩, ⟨.loc 7, true, .arr pairE (s : Scr).grid.cells⟩, ⟨.loc 8, true, .arr pairE (s : Scr).grid.back⟩, ⟨.loc 9, true, .arr boolE (s : Scr).tabs⟩, ⟨.loc 10, true, .arr (intE .i64) (s : Scr).sets⟩], 11⟩) := by
  refine .ofC hS _ _ _ Tryz.func60 ?_
  conv => whnf
  repeat' (first|refine Seal.mk ?_|(refine wS ?_;(conv=>whnf);fail_if_success show False)|((first|refine opsA_step ?_);conv=>whnf)|(intro _;first|omega|conv=>whnf)|(apply And.intro<;>intro _<;>first|omega|conv=>whnf)|((first|refine aLQ ?_|refine ⟨_,rfl,?_⟩|refine ⟨_,⟨rfl,rfl⟩,?_⟩|refine ⟨_,⟨rfl,rfl,leafQ⟩,?_⟩);conv=>whnf)|with_reducible assumption|exact lfQ|fail)
  all_goals (first | contradiction | (exfalso; omega) | (refine ⟨(),⟨⟩,?_⟩;exact fzQ))
theorem l5Do (s : Scr) (r w : Nat) (h : OkS s r w) (a : Vm.Act) (ha : ActOk a)  : CallA S 60 [.ptr (.loc 0) 20 none 0, .ptr (.loc 5) 5 none 0] ⟨[⟨.loc 0, true, .raw (scrC (.loc 1) (.loc 2) (.loc 3) (.loc 4) s)⟩, ⟨.loc 1, true, .arr pairE s.grid.cells⟩, ⟨.loc 2, true, .arr pairE s.grid.back⟩, ⟨.loc 3, true, .arr boolE s.tabs⟩, ⟨.loc 4, true, .arr (intE .i64) s.sets⟩, ⟨.loc 5, false, .raw [.int .i64 a.kind, .int .i64 a.char, .int .i64 a.set, .prop (a.priv = true), .sl (.loc 6) 1 none a.params.length]⟩, ⟨.loc 6, false, .arr (intE .i64) a.params⟩], 7⟩ (Ret1 (.tup []) ⟨[⟨.loc 0, true, .raw (scrC (.loc 7) (.loc 8) (.loc 9) (.loc 10) (doM s w a : Scr))⟩, ⟨.loc 7, true, .arr pairE (doM s w a : Scr).grid.cells⟩, ⟨.loc 8, true, .arr pairE (doM s w a : Scr).grid.back⟩, ⟨.loc 9, true, .arr boolE (doM s w a : Scr).tabs⟩, ⟨.loc 10, true, .arr (intE .i64) (doM s w a : Scr).sets⟩], 11⟩) := by
  by_cases c0 : a.kind = 1
  · have e : doM s w a = printM s a.char := by unfold doM; rw [if_pos c0]
    rw [e]; exact l5Do0 s r w h a ha c0
  by_cases c1 : a.kind = 2
  · have e : doM s w a = ctlM s a.char := by unfold doM; rw [if_neg c0, if_pos c1]
    rw [e]; exact l5Do1 s r w h a ha c1
  by_cases c2 : a.kind = 3
  · have e : doM s w a = escM s a.char := by unfold doM; rw [if_neg c0, if_neg c1, if_pos c2]
    rw [e]; exact l5Do2 s r w h a ha c2
  by_cases c3 : a.kind = 5
  · have e : doM s w a = setM s a.set a.char := by unfold doM; rw [if_neg c0, if_neg c1, if_neg c2, if_pos c3]
    rw [e]; exact l5Do3 s r w h a ha c3
  by_cases c4 : a.kind = 4
  · have e : doM s w a = paramsM s w a := by unfold doM; rw [if_neg c0, if_neg c1, if_neg c2, if_neg c3, if_pos c4]
    rw [e]; exact l5Do4 s r w h a ha c4
  have e : doM s w a = s := by unfold doM; rw [if_neg c0, if_neg c1, if_neg c2, if_neg c3, if_neg c4]
  rw [e]; exact l5Do5 s r w h a ha ⟨c0, c1, c2, c3, c4⟩
end Go.Mu
