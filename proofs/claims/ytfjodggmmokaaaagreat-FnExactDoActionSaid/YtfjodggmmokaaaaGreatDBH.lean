/- Screens, as the reference does other sequences. -/
import Derived.Test.YtfjodggmmokaaaaGreatDAK
import Derived.Test.YtfjodggmmokaaaaGreatDBG
import Derived.Test.YtfjodggmmokaaaaGreatDBD
set_option linter.unusedSimpArgs false
set_option linter.unusedVariables false
set_option linter.constructorNameAsVariable false
namespace Go.Mu
open Go Go.Vm Go.RowKit Go.Proofs
attribute [local irreducible] wpA opsA stillA drawA drawS
set_option maxRecDepth 20000
set_option maxHeartbeats 40000000
theorem bits8 : ∀ k : Nat, k < 32 → (k ||| 8) ≤ 31 ∧ (k ^^^ (k &&& 8)) ≤ 31 ∧ (k ||| 16) ≤ 31 ∧ (k ^^^ (k &&& 16)) ≤ 31 ∧ (k ^^^ (k &&& 7)) ≤ 24 := by decide
theorem attrM_ok {a p : Int} (h : 0 ≤ a ∧ a ≤ 31) : 0 ≤ attrM a p ∧ attrM a p ≤ 31 := by
  obtain ⟨q1, q2, q3, q4, q5⟩ := bits8 a.toNat (by omega)
  have q1 : ((a.toNat ||| (8 : Int).toNat : Nat) : Int) ≤ 31 := by exact_mod_cast q1
  have q2 : ((a.toNat ^^^ (a.toNat &&& (8 : Int).toNat) : Nat) : Int) ≤ 31 := by exact_mod_cast q2
  have q3 : ((a.toNat ||| (16 : Int).toNat : Nat) : Int) ≤ 31 := by exact_mod_cast q3
  have q4 : ((a.toNat ^^^ (a.toNat &&& (16 : Int).toNat) : Nat) : Int) ≤ 31 := by exact_mod_cast q4
  have q5 : ((a.toNat ^^^ (a.toNat &&& (7 : Int).toNat) : Nat) : Int) ≤ 24 := by exact_mod_cast q5
  unfold attrM
  split
  · omega
  split
  · omega
  split
  · omega
  split
  · omega
  split
  · omega
  split
  · omega
  split
  · omega
  exact h
def attrL (a : Int) (ps : List Int) (i : Nat) : Int := (ps.take i).foldl attrM a
theorem attrL_next {a : Int} {ps : List Int} {i : Nat} (h : i < ps.length) : attrL a ps (i + 1) = attrM (attrL a ps i) (ps.getD (i : Int).toNat 0) := by
  unfold attrL
  rw [Int.toNat_natCast, List.take_succ_eq_append_getElem h, List.foldl_append, show ps.getD i 0 = ps[i] by simp [h]]
  rfl
theorem attrL_ok {a : Int} {ps : List Int} (h : 0 ≤ a ∧ a ≤ 31) : ∀ i, 0 ≤ attrL a ps i ∧ attrL a ps i ≤ 31 := fun i => by
  unfold attrL
  generalize ps.take i = l
  induction l generalizing a with
  | nil => exact h
  | cons p l ih => exact ih (attrM_ok h)
theorem l5OthersM (s : Scr) (r w : Nat) (h : OkS s r w) (a : Vm.Act) (hl : 1 ≤ a.params.length ∧ a.params.length ≤ 1000) (hps : ∀ p ∈ a.params, 0 ≤ p ∧ p ≤ 99999) (hc : a.char = 109) : CallA S 229 [.ptr (.loc 0) 20 none 0, .ptr (.loc 5) 5 none 0] ⟨[⟨.loc 0, true, .raw (scrC (.loc 1) (.loc 2) (.loc 3) (.loc 4) s)⟩, ⟨.loc 3, true, .arr boolE s.tabs⟩, ⟨.loc 5, false, .raw [.int .i64 a.kind, .int .i64 a.char, .int .i64 a.set, .prop (a.priv = true), .sl (.loc 6) 1 none a.params.length]⟩, ⟨.loc 6, false, .arr (intE .i64) a.params⟩], 7⟩ (Ret1 (.tup []) ⟨[⟨.loc 0, true, .raw (scrC (.loc 1) (.loc 2) (.loc 7) (.loc 4) ({ s with attr := attrL s.attr a.params a.params.length } : Scr))⟩, ⟨.loc 7, true, .arr boolE ({ s with attr := attrL s.attr a.params a.params.length } : Scr).tabs⟩], 8⟩) := by
  have hz := h.sz
  have hh := h
  obtain ⟨h1, h2, h3, h4, h5, h6, h7, h8, h9, h10, h11, h12, h13, h14, h15, _⟩ := hh
  have hget : ∀ i : Nat, 0 ≤ a.params.getD (i : Int).toNat 0 ∧ a.params.getD (i : Int).toNat 0 ≤ 99999 := fun i => getD_all (d := 0) (P := fun p => 0 ≤ p ∧ p ≤ 99999) hps (by omega) (i : Int).toNat
  refine .ofC hS _ _ _ Tryz.func229 ?_
  conv => whnf
  repeat' (first|refine Seal.mk ?_|(refine wS ?_;(conv=>whnf);fail_if_success show False)|((first|refine opsA_step ?_|refine drawS_go ?_);conv=>whnf)|(intro _;first|omega|conv=>whnf)|(apply And.intro<;>intro _<;>first|omega|conv=>whnf)|((first|refine aLQ ?_|refine oLQ ?_|refine ⟨_,rfl,?_⟩|refine ⟨_,⟨rfl,rfl⟩,?_⟩|refine ⟨_,⟨rfl,rfl,leafQ⟩,?_⟩);conv=>whnf)|with_reducible assumption|exact lfQ|fail)
  all_goals (try (exfalso; omega))
  refine .loop hS (γ := Nat) (fun i => ⟨[(0, .ptr (.loc 0) 20 none 0), (1, .ptr (.loc 5) 5 none 0), (4, .int .i64 i)], ⟨[⟨.loc 0, true, .raw (scrC (.loc 1) (.loc 2) (.loc 3) (.loc 4) ({ s with attr := attrL s.attr a.params i } : Scr))⟩, ⟨.loc 3, true, .arr boolE s.tabs⟩, ⟨.loc 5, false, .raw [.int .i64 a.kind, .int .i64 a.char, .int .i64 a.set, .prop (a.priv = true), .sl (.loc 6) 1 none a.params.length]⟩, ⟨.loc 6, false, .arr (intE .i64) a.params⟩], 7⟩, 89, 7⟩) (fun i => i ≤ a.params.length) (fun i => a.params.length - i) 0 (by omega) ?_ ?_
  · have h0 : attrL s.attr a.params 0 = s.attr := rfl
    rw [h0]
    ((try dsimp only);exact fzQ)
  · intro i hi
    have hat := attrL_ok (ps := a.params) h10 i
    have hgi := hget i
    conv => whnf
    by_cases hgo : i < a.params.length
    · have hn := attrL_next (a := s.attr) hgo
      generalize attrL s.attr a.params i = t at *
      repeat' (first|refine Seal.mk ?_|(refine wS ?_;(conv=>whnf);fail_if_success show False)|((first|refine opsA_step ?_|refine drawS_go ?_|refine wD (id:=5) (.quick 0 (.quick 1 (.quick 2 (.quick 3 (.quick 5 (.quick 6 (.quick 7 (.quick 9 (.read 4 (.read 8 (.quick 10 (.read 11 (.all (.step 12 (.quick 13 (.quick 14 (.all (.step 15 .done)))))))))))))))))) [12, 15] (by kernel_rfl) rfl ?_|apply wL (l5Attr t _ hat hgi));conv=>whnf)|(intro _;first|omega|conv=>whnf)|(apply And.intro<;>intro _<;>first|omega|conv=>whnf)|((first|refine aLQ ?_|refine oLQ ?_|refine ⟨_,rfl,?_⟩|refine ⟨_,⟨rfl,rfl⟩,?_⟩|refine ⟨_,⟨rfl,rfl,leafQ⟩,?_⟩);conv=>whnf)|with_reducible assumption|exact lfQ|fail)
      all_goals (first | contradiction | (exfalso; omega) | (refine ⟨i + 1, ⟨by omega, by omega⟩, ?_⟩; rw [hn]; ((try dsimp only);exact fzQ)))
    · have hie : i = a.params.length := by omega
      subst hie
      repeat' (first|refine Seal.mk ?_|(refine wS ?_;(conv=>whnf);fail_if_success show False)|((first|refine opsA_step ?_|refine drawS_go ?_);conv=>whnf)|(intro _;first|omega|conv=>whnf)|(apply And.intro<;>intro _<;>first|omega|conv=>whnf)|((first|refine aLQ ?_|refine oLQ ?_|refine ⟨_,rfl,?_⟩|refine ⟨_,⟨rfl,rfl⟩,?_⟩|refine ⟨_,⟨rfl,rfl,leafQ⟩,?_⟩);conv=>whnf)|with_reducible assumption|exact lfQ|fail)
      (refine ⟨(),⟨⟩,?_⟩;exact fzQ)
theorem l5OthersG0 (s : Scr) (r w : Nat) (h : OkS s r w) (a : Vm.Act) (hl : 1 ≤ a.params.length ∧ a.params.length ≤ 1000) (hps : ∀ p ∈ a.params, 0 ≤ p ∧ p ≤ 99999) (hc : a.char = 103) (h0 : a.params.getD 0 0 = 0) : CallA S 229 [.ptr (.loc 0) 20 none 0, .ptr (.loc 5) 5 none 0] ⟨[⟨.loc 0, true, .raw (scrC (.loc 1) (.loc 2) (.loc 3) (.loc 4) s)⟩, ⟨.loc 3, true, .arr boolE s.tabs⟩, ⟨.loc 5, false, .raw [.int .i64 a.kind, .int .i64 a.char, .int .i64 a.set, .prop (a.priv = true), .sl (.loc 6) 1 none a.params.length]⟩, ⟨.loc 6, false, .arr (intE .i64) a.params⟩], 7⟩ (Ret1 (.tup []) ⟨[⟨.loc 0, true, .raw (scrC (.loc 1) (.loc 2) (.loc 7) (.loc 4) ({ s with tabs := s.tabs.set s.x.toNat false } : Scr))⟩, ⟨.loc 7, true, .arr boolE ({ s with tabs := s.tabs.set s.x.toNat false } : Scr).tabs⟩], 8⟩) := by
  have hz := h.sz
  have hh := h
  obtain ⟨h1, h2, h3, h4, h5, h6, h7, h8, h9, h10, h11, h12, h13, h14, h15, _⟩ := hh
  have hget : ∀ i : Nat, 0 ≤ a.params.getD (i : Int).toNat 0 ∧ a.params.getD (i : Int).toNat 0 ≤ 99999 := fun i => getD_all (d := 0) (P := fun p => 0 ≤ p ∧ p ≤ 99999) hps (by omega) (i : Int).toNat
  have hp0 := hget 0
  have hls : (s.tabs.set s.x.toNat false).length = s.tabs.length := List.length_set ..
  refine .ofC hS _ _ _ Tryz.func229 ?_
  conv => whnf
  repeat' (first|refine Seal.mk ?_|(refine wS ?_;(conv=>whnf);fail_if_success show False)|((first|refine opsA_step ?_|refine drawS_go ?_|refine wD (id:=8) (.quick 0 (.quick 1 (.quick 2 (.quick 4 (.quick 5 (.quick 6 (.read 3 (.read 7 (.quick 8 (.all (.step 9 .done))))))))))) [9] (by kernel_rfl) rfl ?_|apply wL (l5Keep s r w h)|apply wL (l5Back s r w h));conv=>whnf)|(intro _;first|omega|conv=>whnf)|(apply And.intro<;>intro _<;>first|omega|conv=>whnf)|((first|refine aLQ ?_|refine ⟨_,rfl,?_⟩|refine ⟨_,⟨rfl,rfl⟩,?_⟩|refine ⟨_,⟨rfl,rfl,leafQ⟩,?_⟩);conv=>whnf)|with_reducible assumption|exact lfQ|fail)
  all_goals (first | contradiction | (exfalso; omega) | (refine ⟨(),⟨⟩,?_⟩;exact fzQ))
theorem l5OthersG3 (s : Scr) (r w : Nat) (h : OkS s r w) (a : Vm.Act) (hl : 1 ≤ a.params.length ∧ a.params.length ≤ 1000) (hps : ∀ p ∈ a.params, 0 ≤ p ∧ p ≤ 99999) (hc : a.char = 103) (h0 : a.params.getD 0 0 = 3) : CallA S 229 [.ptr (.loc 0) 20 none 0, .ptr (.loc 5) 5 none 0] ⟨[⟨.loc 0, true, .raw (scrC (.loc 1) (.loc 2) (.loc 3) (.loc 4) s)⟩, ⟨.loc 3, true, .arr boolE s.tabs⟩, ⟨.loc 5, false, .raw [.int .i64 a.kind, .int .i64 a.char, .int .i64 a.set, .prop (a.priv = true), .sl (.loc 6) 1 none a.params.length]⟩, ⟨.loc 6, false, .arr (intE .i64) a.params⟩], 7⟩ (Ret1 (.tup []) ⟨[⟨.loc 0, true, .raw (scrC (.loc 1) (.loc 2) (.loc 7) (.loc 4) ({ s with tabs := List.replicate w false } : Scr))⟩, ⟨.loc 7, true, .arr boolE ({ s with tabs := List.replicate w false } : Scr).tabs⟩], 8⟩) := by
  have hz := h.sz
  have hh := h
  obtain ⟨h1, h2, h3, h4, h5, h6, h7, h8, h9, h10, h11, h12, h13, h14, h15, _⟩ := hh
  have hget : ∀ i : Nat, 0 ≤ a.params.getD (i : Int).toNat 0 ∧ a.params.getD (i : Int).toNat 0 ≤ 99999 := fun i => getD_all (d := 0) (P := fun p => 0 ≤ p ∧ p ≤ 99999) hps (by omega) (i : Int).toNat
  have hp0 := hget 0
  have hls : (List.replicate w false).length = w := List.length_replicate ..
  have hq : List.replicate s.grid.width.toNat boolE.d = List.replicate w false := by rw [show s.grid.width.toNat = w by omega]; rfl
  refine .ofC hS _ _ _ Tryz.func229 ?_
  conv => whnf
  repeat' (first|refine Seal.mk ?_|(refine wS ?_;(conv=>whnf);fail_if_success show False)|((first|refine opsA_step ?_|refine drawS_go ?_|refine wD (id:=8) (.quick 0 (.quick 1 (.quick 2 (.quick 4 (.quick 5 (.quick 6 (.read 3 (.read 7 (.quick 8 (.all (.step 9 .done))))))))))) [9] (by kernel_rfl) rfl ?_|apply wL (l5Keep s r w h)|apply wL (l5Back s r w h));conv=>whnf)|(intro _;first|omega|conv=>whnf)|(apply And.intro<;>intro _<;>first|omega|conv=>whnf)|((first|refine aLQ ?_|refine ⟨_,rfl,?_⟩|refine ⟨_,⟨rfl,rfl⟩,?_⟩|refine ⟨_,⟨rfl,rfl,leafQ⟩,?_⟩);conv=>whnf)|with_reducible assumption|exact lfQ|fail)
  all_goals (first | contradiction | (exfalso; omega) | (refine ⟨(),⟨⟩,?_⟩;exact fzQ))
theorem l5OthersGx (s : Scr) (r w : Nat) (h : OkS s r w) (a : Vm.Act) (hl : 1 ≤ a.params.length ∧ a.params.length ≤ 1000) (hps : ∀ p ∈ a.params, 0 ≤ p ∧ p ≤ 99999) (hc : a.char = 103) (h0 : ¬ a.params.getD 0 0 = 0) (h3' : ¬ a.params.getD 0 0 = 3) : CallA S 229 [.ptr (.loc 0) 20 none 0, .ptr (.loc 5) 5 none 0] ⟨[⟨.loc 0, true, .raw (scrC (.loc 1) (.loc 2) (.loc 3) (.loc 4) s)⟩, ⟨.loc 3, true, .arr boolE s.tabs⟩, ⟨.loc 5, false, .raw [.int .i64 a.kind, .int .i64 a.char, .int .i64 a.set, .prop (a.priv = true), .sl (.loc 6) 1 none a.params.length]⟩, ⟨.loc 6, false, .arr (intE .i64) a.params⟩], 7⟩ (Ret1 (.tup []) ⟨[⟨.loc 0, true, .raw (scrC (.loc 1) (.loc 2) (.loc 7) (.loc 4) (s : Scr))⟩, ⟨.loc 7, true, .arr boolE (s : Scr).tabs⟩], 8⟩) := by
  have hz := h.sz
  have hh := h
  obtain ⟨h1, h2, h3, h4, h5, h6, h7, h8, h9, h10, h11, h12, h13, h14, h15, _⟩ := hh
  have hget : ∀ i : Nat, 0 ≤ a.params.getD (i : Int).toNat 0 ∧ a.params.getD (i : Int).toNat 0 ≤ 99999 := fun i => getD_all (d := 0) (P := fun p => 0 ≤ p ∧ p ≤ 99999) hps (by omega) (i : Int).toNat
  have hp0 := hget 0
  refine .ofC hS _ _ _ Tryz.func229 ?_
  conv => whnf
  repeat' (first|refine Seal.mk ?_|(refine wS ?_;(conv=>whnf);fail_if_success show False)|((first|refine opsA_step ?_|refine drawS_go ?_|refine wD (id:=8) (.quick 0 (.quick 1 (.quick 2 (.quick 4 (.quick 5 (.quick 6 (.read 3 (.read 7 (.quick 8 (.all (.step 9 .done))))))))))) [9] (by kernel_rfl) rfl ?_|apply wL (l5Keep s r w h)|apply wL (l5Back s r w h));conv=>whnf)|(intro _;first|omega|conv=>whnf)|(apply And.intro<;>intro _<;>first|omega|conv=>whnf)|((first|refine aLQ ?_|refine ⟨_,rfl,?_⟩|refine ⟨_,⟨rfl,rfl⟩,?_⟩|refine ⟨_,⟨rfl,rfl,leafQ⟩,?_⟩);conv=>whnf)|with_reducible assumption|exact lfQ|fail)
  all_goals (first | contradiction | (exfalso; omega) | (refine ⟨(),⟨⟩,?_⟩;exact fzQ))
theorem l5OthersR (s : Scr) (r w : Nat) (h : OkS s r w) (a : Vm.Act) (hl : 1 ≤ a.params.length ∧ a.params.length ≤ 1000) (hps : ∀ p ∈ a.params, 0 ≤ p ∧ p ≤ 99999) (hc : a.char = 114) : CallA S 229 [.ptr (.loc 0) 20 none 0, .ptr (.loc 5) 5 none 0] ⟨[⟨.loc 0, true, .raw (scrC (.loc 1) (.loc 2) (.loc 3) (.loc 4) s)⟩, ⟨.loc 3, true, .arr boolE s.tabs⟩, ⟨.loc 5, false, .raw [.int .i64 a.kind, .int .i64 a.char, .int .i64 a.set, .prop (a.priv = true), .sl (.loc 6) 1 none a.params.length]⟩, ⟨.loc 6, false, .arr (intE .i64) a.params⟩], 7⟩ (Ret1 (.tup []) ⟨[⟨.loc 0, true, .raw (scrC (.loc 1) (.loc 2) (.loc 7) (.loc 4) (regM s (a.params.getD 0 0) (paramM a 1) : Scr))⟩, ⟨.loc 7, true, .arr boolE (regM s (a.params.getD 0 0) (paramM a 1) : Scr).tabs⟩], 8⟩) := by
  have hz := h.sz
  have hh := h
  obtain ⟨h1, h2, h3, h4, h5, h6, h7, h8, h9, h10, h11, h12, h13, h14, h15, _⟩ := hh
  have hget : ∀ i : Nat, 0 ≤ a.params.getD (i : Int).toNat 0 ∧ a.params.getD (i : Int).toNat 0 ≤ 99999 := fun i => getD_all (d := 0) (P := fun p => 0 ≤ p ∧ p ≤ 99999) hps (by omega) (i : Int).toNat
  have hp0 := hget 0
  have hpm : 0 ≤ paramM a 1 ∧ paramM a 1 ≤ 99999 := by
    unfold paramM
    split
    · exact hget 1
    · omega
  have hpa := l5Param a 1 (by omega) hl.2
  have hsr := l5SetRegion s r w h (a.params.getD 0 0) (paramM a 1) (hget 0) hpm
  have hrt : (regM s (a.params.getD 0 0) (paramM a 1)).tabs = s.tabs := by unfold regM; (repeat' split) <;> rfl
  have hrl : (regM s (a.params.getD 0 0) (paramM a 1)).tabs.length = s.tabs.length := by rw [hrt]
  have hrt' := hrt.symm
  refine .ofC hS _ _ _ Tryz.func229 ?_
  conv => whnf
  repeat' (first|refine Seal.mk ?_|(refine wS ?_;(conv=>whnf);fail_if_success show False)|((first|refine opsA_step ?_|refine drawS_go ?_|refine wD (id:=12) (.quick 0 (.quick 1 (.quick 2 (.quick 3 (.quick 7 (.all (.fork (.step 4 (.quick 5 (.all (.fork (.step 6 (.all (.step 8 (.all (.step 9 .done))))) (.step 8 (.all (.step 6 (.all (.step 9 .done))))))))) (.step 8 (.all (.step 4 (.quick 5 (.all (.step 6 (.all (.step 9 .done))))))))))))))) [4, 6, 8, 9] (by kernel_rfl) rfl ?_|apply wL (l5Keep s r w h)|apply wL (l5Back s r w h)|apply wL (hpa)|apply wL (hsr));conv=>whnf)|(intro _;first|omega|conv=>whnf)|(apply And.intro<;>intro _<;>first|omega|conv=>whnf)|refine sM ?_ ?_|((first|refine aLQ ?_|refine ⟨_,rfl,?_⟩|refine ⟨_,⟨rfl,rfl⟩,?_⟩|refine ⟨_,⟨rfl,rfl,leafQ⟩,?_⟩);conv=>whnf)|with_reducible assumption|exact lfQ|fail)
  all_goals (first | contradiction | (exfalso; omega) | (refine ⟨(),⟨⟩,?_⟩;exact fzQ))
theorem l5OthersS (s : Scr) (r w : Nat) (h : OkS s r w) (a : Vm.Act) (hl : 1 ≤ a.params.length ∧ a.params.length ≤ 1000) (hps : ∀ p ∈ a.params, 0 ≤ p ∧ p ≤ 99999) (hc : a.char = 115) : CallA S 229 [.ptr (.loc 0) 20 none 0, .ptr (.loc 5) 5 none 0] ⟨[⟨.loc 0, true, .raw (scrC (.loc 1) (.loc 2) (.loc 3) (.loc 4) s)⟩, ⟨.loc 3, true, .arr boolE s.tabs⟩, ⟨.loc 5, false, .raw [.int .i64 a.kind, .int .i64 a.char, .int .i64 a.set, .prop (a.priv = true), .sl (.loc 6) 1 none a.params.length]⟩, ⟨.loc 6, false, .arr (intE .i64) a.params⟩], 7⟩ (Ret1 (.tup []) ⟨[⟨.loc 0, true, .raw (scrC (.loc 1) (.loc 2) (.loc 7) (.loc 4) ({ s with keptY := s.y, keptX := s.x, keptA := s.attr } : Scr))⟩, ⟨.loc 7, true, .arr boolE ({ s with keptY := s.y, keptX := s.x, keptA := s.attr } : Scr).tabs⟩], 8⟩) := by
  have hz := h.sz
  have hh := h
  obtain ⟨h1, h2, h3, h4, h5, h6, h7, h8, h9, h10, h11, h12, h13, h14, h15, _⟩ := hh
  have hget : ∀ i : Nat, 0 ≤ a.params.getD (i : Int).toNat 0 ∧ a.params.getD (i : Int).toNat 0 ≤ 99999 := fun i => getD_all (d := 0) (P := fun p => 0 ≤ p ∧ p ≤ 99999) hps (by omega) (i : Int).toNat
  have hp0 := hget 0
  refine .ofC hS _ _ _ Tryz.func229 ?_
  conv => whnf
  repeat' (first|refine Seal.mk ?_|(refine wS ?_;(conv=>whnf);fail_if_success show False)|((first|refine opsA_step ?_|apply wL (l5Keep s r w h)|apply wL (l5Back s r w h));conv=>whnf)|(intro _;first|omega|conv=>whnf)|(apply And.intro<;>intro _<;>first|omega|conv=>whnf)|((first|refine aLQ ?_|refine ⟨_,rfl,?_⟩|refine ⟨_,⟨rfl,rfl⟩,?_⟩|refine ⟨_,⟨rfl,rfl,leafQ⟩,?_⟩);conv=>whnf)|with_reducible assumption|exact lfQ|fail)
  all_goals (first | contradiction | (exfalso; omega) | (refine ⟨(),⟨⟩,?_⟩;exact fzQ))
theorem l5OthersU (s : Scr) (r w : Nat) (h : OkS s r w) (a : Vm.Act) (hl : 1 ≤ a.params.length ∧ a.params.length ≤ 1000) (hps : ∀ p ∈ a.params, 0 ≤ p ∧ p ≤ 99999) (hc : a.char = 117) : CallA S 229 [.ptr (.loc 0) 20 none 0, .ptr (.loc 5) 5 none 0] ⟨[⟨.loc 0, true, .raw (scrC (.loc 1) (.loc 2) (.loc 3) (.loc 4) s)⟩, ⟨.loc 3, true, .arr boolE s.tabs⟩, ⟨.loc 5, false, .raw [.int .i64 a.kind, .int .i64 a.char, .int .i64 a.set, .prop (a.priv = true), .sl (.loc 6) 1 none a.params.length]⟩, ⟨.loc 6, false, .arr (intE .i64) a.params⟩], 7⟩ (Ret1 (.tup []) ⟨[⟨.loc 0, true, .raw (scrC (.loc 1) (.loc 2) (.loc 7) (.loc 4) (goM { s with attr := s.keptA } s.keptY s.keptX : Scr))⟩, ⟨.loc 7, true, .arr boolE (goM { s with attr := s.keptA } s.keptY s.keptX : Scr).tabs⟩], 8⟩) := by
  have hz := h.sz
  have hh := h
  obtain ⟨h1, h2, h3, h4, h5, h6, h7, h8, h9, h10, h11, h12, h13, h14, h15, _⟩ := hh
  have hget : ∀ i : Nat, 0 ≤ a.params.getD (i : Int).toNat 0 ∧ a.params.getD (i : Int).toNat 0 ≤ 99999 := fun i => getD_all (d := 0) (P := fun p => 0 ≤ p ∧ p ≤ 99999) hps (by omega) (i : Int).toNat
  have hp0 := hget 0
  refine .ofC hS _ _ _ Tryz.func229 ?_
  conv => whnf
  repeat' (first|refine Seal.mk ?_|(refine wS ?_;(conv=>whnf);fail_if_success show False)|((first|refine opsA_step ?_|apply wL (l5Keep s r w h)|apply wL (l5Back s r w h));conv=>whnf)|(intro _;first|omega|conv=>whnf)|(apply And.intro<;>intro _<;>first|omega|conv=>whnf)|((first|refine aLQ ?_|refine ⟨_,rfl,?_⟩|refine ⟨_,⟨rfl,rfl⟩,?_⟩|refine ⟨_,⟨rfl,rfl,leafQ⟩,?_⟩);conv=>whnf)|with_reducible assumption|exact lfQ|fail)
  all_goals (first | contradiction | (exfalso; omega) | (refine ⟨(),⟨⟩,?_⟩;exact fzQ))
theorem l5OthersX (s : Scr) (r w : Nat) (h : OkS s r w) (a : Vm.Act) (hl : 1 ≤ a.params.length ∧ a.params.length ≤ 1000) (hps : ∀ p ∈ a.params, 0 ≤ p ∧ p ≤ 99999) (hc : ¬ a.char = 109 ∧ ¬ a.char = 103 ∧ ¬ a.char = 114 ∧ ¬ a.char = 115 ∧ ¬ a.char = 117) : CallA S 229 [.ptr (.loc 0) 20 none 0, .ptr (.loc 5) 5 none 0] ⟨[⟨.loc 0, true, .raw (scrC (.loc 1) (.loc 2) (.loc 3) (.loc 4) s)⟩, ⟨.loc 3, true, .arr boolE s.tabs⟩, ⟨.loc 5, false, .raw [.int .i64 a.kind, .int .i64 a.char, .int .i64 a.set, .prop (a.priv = true), .sl (.loc 6) 1 none a.params.length]⟩, ⟨.loc 6, false, .arr (intE .i64) a.params⟩], 7⟩ (Ret1 (.tup []) ⟨[⟨.loc 0, true, .raw (scrC (.loc 1) (.loc 2) (.loc 7) (.loc 4) (s : Scr))⟩, ⟨.loc 7, true, .arr boolE (s : Scr).tabs⟩], 8⟩) := by
  have hz := h.sz
  have hh := h
  obtain ⟨h1, h2, h3, h4, h5, h6, h7, h8, h9, h10, h11, h12, h13, h14, h15, _⟩ := hh
  have hget : ∀ i : Nat, 0 ≤ a.params.getD (i : Int).toNat 0 ∧ a.params.getD (i : Int).toNat 0 ≤ 99999 := fun i => getD_all (d := 0) (P := fun p => 0 ≤ p ∧ p ≤ 99999) hps (by omega) (i : Int).toNat
  have hp0 := hget 0
  refine .ofC hS _ _ _ Tryz.func229 ?_
  conv => whnf
  repeat' (first|refine Seal.mk ?_|(refine wS ?_;(conv=>whnf);fail_if_success show False)|((first|refine opsA_step ?_|apply wL (l5Keep s r w h)|apply wL (l5Back s r w h));conv=>whnf)|(intro _;first|omega|conv=>whnf)|(apply And.intro<;>intro _<;>first|omega|conv=>whnf)|((first|refine aLQ ?_|refine ⟨_,rfl,?_⟩|refine ⟨_,⟨rfl,rfl⟩,?_⟩|refine ⟨_,⟨rfl,rfl,leafQ⟩,?_⟩);conv=>whnf)|with_reducible assumption|exact lfQ|fail)
  all_goals (first | contradiction | (exfalso; omega) | (refine ⟨(),⟨⟩,?_⟩;exact fzQ))
end Go.Mu

namespace Go.Mu
open Go Go.Vm Go.RowKit Go.Proofs
attribute [local irreducible] wpA opsA stillA drawA drawS
set_option maxRecDepth 20000
set_option maxHeartbeats 40000000
def othersM (s : Scr) (w : Nat) (a : Vm.Act) : Scr := if a.char = 109 then { s with attr := attrL s.attr a.params a.params.length } else if a.char = 103 then (if a.params.getD 0 0 = 0 then { s with tabs := s.tabs.set s.x.toNat false } else if a.params.getD 0 0 = 3 then { s with tabs := List.replicate w false } else s) else if a.char = 114 then regM s (a.params.getD 0 0) (paramM a 1) else if a.char = 115 then { s with keptY := s.y, keptX := s.x, keptA := s.attr } else if a.char = 117 then goM { s with attr := s.keptA } s.keptY s.keptX else s
theorem l5Others (s : Scr) (r w : Nat) (h : OkS s r w) (a : Vm.Act) (hl : 1 ≤ a.params.length ∧ a.params.length ≤ 1000) (hps : ∀ p ∈ a.params, 0 ≤ p ∧ p ≤ 99999)  : CallA S 229 [.ptr (.loc 0) 20 none 0, .ptr (.loc 5) 5 none 0] ⟨[⟨.loc 0, true, .raw (scrC (.loc 1) (.loc 2) (.loc 3) (.loc 4) s)⟩, ⟨.loc 3, true, .arr boolE s.tabs⟩, ⟨.loc 5, false, .raw [.int .i64 a.kind, .int .i64 a.char, .int .i64 a.set, .prop (a.priv = true), .sl (.loc 6) 1 none a.params.length]⟩, ⟨.loc 6, false, .arr (intE .i64) a.params⟩], 7⟩ (Ret1 (.tup []) ⟨[⟨.loc 0, true, .raw (scrC (.loc 1) (.loc 2) (.loc 7) (.loc 4) (othersM s w a : Scr))⟩, ⟨.loc 7, true, .arr boolE (othersM s w a : Scr).tabs⟩], 8⟩) := by
  by_cases c0 : a.char = 109
  · have e : othersM s w a = { s with attr := attrL s.attr a.params a.params.length } := by unfold othersM; rw [if_pos c0]
    rw [e]; exact l5OthersM s r w h a hl hps c0
  by_cases c1 : a.char = 103
  · by_cases g0 : a.params.getD 0 0 = 0
    · have e : othersM s w a = { s with tabs := s.tabs.set s.x.toNat false } := by unfold othersM; rw [if_neg c0, if_pos c1, if_pos g0]
      rw [e]; exact l5OthersG0 s r w h a hl hps c1 g0
    by_cases g3 : a.params.getD 0 0 = 3
    · have e : othersM s w a = { s with tabs := List.replicate w false } := by unfold othersM; rw [if_neg c0, if_pos c1, if_neg g0, if_pos g3]
      rw [e]; exact l5OthersG3 s r w h a hl hps c1 g3
    have e : othersM s w a = s := by unfold othersM; rw [if_neg c0, if_pos c1, if_neg g0, if_neg g3]
    rw [e]; exact l5OthersGx s r w h a hl hps c1 g0 g3
  by_cases c2 : a.char = 114
  · have e : othersM s w a = regM s (a.params.getD 0 0) (paramM a 1) := by unfold othersM; rw [if_neg c0, if_neg c1, if_pos c2]
    rw [e]; exact l5OthersR s r w h a hl hps c2
  by_cases c3 : a.char = 115
  · have e : othersM s w a = { s with keptY := s.y, keptX := s.x, keptA := s.attr } := by unfold othersM; rw [if_neg c0, if_neg c1, if_neg c2, if_pos c3]
    rw [e]; exact l5OthersS s r w h a hl hps c3
  by_cases c4 : a.char = 117
  · have e : othersM s w a = goM { s with attr := s.keptA } s.keptY s.keptX := by unfold othersM; rw [if_neg c0, if_neg c1, if_neg c2, if_neg c3, if_pos c4]
    rw [e]; exact l5OthersU s r w h a hl hps c4
  have e : othersM s w a = s := by unfold othersM; rw [if_neg c0, if_neg c1, if_neg c2, if_neg c3, if_neg c4]
  rw [e]; exact l5OthersX s r w h a hl hps ⟨c0, c1, c2, c3, c4⟩
end Go.Mu
