/- Muxes turned: what is to be answered. -/
import Derived.Test.YtofeeoknfhekkaaGreatPI
import Derived.Test.YtofeeoknfhekkaaGreatLJ
import Derived.Test.YtofeeoknfhekkaaGreatLI
set_option linter.unusedSimpArgs false
set_option linter.unusedVariables false
set_option linter.constructorNameAsVariable false
namespace Go.Mu
open Go Go.Vm Go.RowKit Go.Proofs
set_option maxRecDepth 20000
set_option maxHeartbeats 4000000
def mux0 : Mux := ⟨[], [], 0, 0, 0, [], [], ⟨[], false, 0⟩⟩
theorem mux0B : MuxB mux0 := by
  refine ⟨?_, ⟨?_⟩, ?_, ?_, ?_, ?_, ⟨?_⟩⟩ <;> simp [mux0, sumC]
@[reducible] def muxBad (c : Int) : MuxR := ⟨c, false, [], mux0⟩
/-- what a mux is bounded by, marks and all -/
structure MuxW (s : Mux) : Prop where
  b : MuxB s
  e : sumC cntE s.cons ≤ 268435456
theorem mux0W : MuxW mux0 := ⟨mux0B, by simp [mux0, sumC]⟩
structure MuxRW (s : MuxR) : Prop where
  b : MuxRB s
  e : sumC cntE s.mux.cons ≤ 268435456
theorem muxR_of {s : MuxR} (hb : s.bytes.length ≤ 1048576) (h : MuxW s.mux) : MuxRW s := ⟨⟨hb, h.b⟩, h.e⟩
theorem muxBad_W (c : Int) : MuxRW (muxBad c) := muxR_of (by simp) mux0W
/-- a console of a mux, or none -/
def Place (s : Mux) (who : Int) : Prop := 0 ≤ who ∧ who ≤ s.cons.length - 1
noncomputable def whoF (s : Mux) (who : Int) : Int := open Classical in if muxF s = 0 then (if Place s who then 0 else 4) else muxF s
theorem muxF_ok {s : Mux} (h : muxF s = 0) : ((1 ≤ s.cons.length ∧ s.cons.length ≤ 3) ∧ s.polite.length = s.cons.length) ∧ rangeM s ∧ waitsP s ∧ (∀ i, i < s.cons.length → conF (s.cons.getD i con0) = 0) ∧ bindsF s.binds = 0 ∧ textsF s.texts = 0 ∧ kbdF s.kbd = 0 := by
  unfold muxF at h
  split at h
  · omega
  rename_i h1
  split at h
  · omega
  rename_i h2
  split at h
  · rename_i h3; exact absurd h h3
  rename_i h3
  split at h
  · rename_i h4
    refine ⟨⟨Classical.not_not.1 h1, Classical.not_not.1 h2⟩, h4, ?_⟩
    have hk : ∀ i, i < s.cons.length → conF (s.cons.getD i con0) = 0 := fun i hi => by
      by_cases hc : conF (s.cons.getD i con0) = 0
      · exact hc
      · exfalso
        have hex : ∃ i, i < s.cons.length ∧ ¬ conAt s.cons i = 0 := ⟨i, hi, hc⟩
        have key : ∀ n, (∃ i, i < n ∧ i < s.cons.length ∧ ¬ conAt s.cons i = 0) → ∃ i, i < s.cons.length ∧ ¬ conAt s.cons i = 0 ∧ ∀ k, k < i → conAt s.cons k = 0 := by
          intro n
          induction n with
          | zero => rintro ⟨i, h, _⟩; omega
          | succ n ih =>
            rintro ⟨i, h1, h2, h3⟩
            by_cases hq : ∃ i, i < n ∧ i < s.cons.length ∧ ¬ conAt s.cons i = 0
            · exact ih hq
            · refine ⟨i, h2, h3, fun k hk => Classical.byContradiction fun hz => hq ⟨k, by omega, by omega, hz⟩⟩
        obtain ⟨j, j1, j2, j3⟩ := key _ ⟨i, Nat.lt_succ_self i, hi, hc⟩
        have e := firstF_at (f := conAt s.cons) j1 j3 j2
        rw [e] at h3
        exact h3 j2
    by_cases hw : waitsP s
    · rw [if_pos hw] at h
      refine ⟨hw, hk, ?_⟩
      by_cases a : bindsF s.binds = 0 <;> by_cases b : textsF s.texts = 0 <;> by_cases c : kbdF s.kbd = 0 <;> simp_all [firstNZ]
    · rw [if_neg hw] at h
      simp [firstNZ] at h
  · omega
end Go.Mu

namespace Go.Mu
open Go Go.Vm Go.RowKit Go.Proofs
set_option maxRecDepth 20000
set_option maxHeartbeats 4000000
theorem cntE_B {s : Con} (h : ConB s) : cntE s ≤ 9437216 := by
  obtain ⟨⟨⟨h1⟩, ⟨⟨h2, h3⟩, h4, h5⟩⟩, ⟨h6, h7, h8⟩⟩ := h
  rw [cntE_eq]
  omega
theorem sumC_bound {α : Type} {cnt : α → Nat} {c : Nat} : ∀ {xs : List α}, (∀ x ∈ xs, cnt x ≤ c) → sumC cnt xs ≤ xs.length * c
  | [], _ => by simp [sumC]
  | x :: r, h => by
    have h1 := h x List.mem_cons_self
    have h2 := sumC_bound (xs := r) fun y hy => h y (List.mem_cons_of_mem _ hy)
    simp only [sumC, List.length_cons, Nat.add_mul, Nat.one_mul]
    omega
theorem few_E {xs : List Con} (h : AllCon xs) (hl : xs.length ≤ 4) : sumC cntE xs ≤ 268435456 := by
  have := sumC_bound (cnt := cntE) (c := 9437216) (xs := xs) fun x hx => cntE_B (h.all x hx)
  have h2 : xs.length * 9437216 ≤ 4 * 9437216 := Nat.mul_le_mul_right _ hl
  omega
theorem size_E {xs : List Con} (h : xs.length + sumC szC xs ≤ 1048576) : sumC cntE xs ≤ 268435456 := by
  have := sumE_le xs
  omega
theorem muxRW_few {s : MuxR} (hb : s.bytes.length ≤ 1048576) (h : MuxB s.mux) (hl : s.mux.cons.length ≤ 4) : MuxRW s := muxR_of hb ⟨h, few_E h.consB hl⟩
theorem muxF_few {s : Mux} (h : muxF s = 0) : s.cons.length ≤ 3 := (muxF_ok h).1.1.2
/-- a console's place is another's -/
theorem allCon_set {xs : List Con} (h : AllCon xs) {x : Con} (hx : ConB x) (i : Nat) : AllCon (xs.set i x) := ⟨fun y hy => by
  rcases List.mem_or_eq_of_mem_set hy with hy | rfl
  · exact h.all y hy
  · exact hx⟩
-- answered
noncomputable def ansR (s : Mux) (y : Bool) : MuxR := open Classical in
  if muxF s = 0 then (if 0 < s.pending then (if y = true then ⟨0, false, [], { s with active := s.pending - 1, pending := 0 }⟩ else ⟨0, false, [], { s with pending := 0 }⟩) else muxBad 7) else muxBad (muxF s)
theorem ansR_yes {s : Mux} {y : Bool} (hf : muxF s = 0) (hp : 0 < s.pending) (hy : y = true) : ansR s y = ⟨0, false, [], { s with active := s.pending - 1, pending := 0 }⟩ := by unfold ansR; rw [if_pos hf, if_pos hp, if_pos hy]
theorem ansR_no {s : Mux} {y : Bool} (hf : muxF s = 0) (hp : 0 < s.pending) (hy : ¬ y = true) : ansR s y = ⟨0, false, [], { s with pending := 0 }⟩ := by unfold ansR; rw [if_pos hf, if_pos hp, if_neg hy]
theorem ansR_n {s : Mux} {y : Bool} (hf : muxF s = 0) (hp : ¬ 0 < s.pending) : ansR s y = ⟨7, false, [], mux0⟩ := by unfold ansR; rw [if_pos hf, if_neg hp]
theorem ansR_bad {s : Mux} {y : Bool} (hf : ¬ muxF s = 0) : ansR s y = ⟨muxF s, false, [], mux0⟩ := by unfold ansR; rw [if_neg hf]
theorem ansR_W {s : Mux} (h : MuxB s) (y : Bool) : MuxRW (ansR s y) := by
  unfold ansR
  split
  · rename_i hf
    have hl := muxF_few hf
    obtain ⟨h0, h1, h2, h3, h4, h5, h6⟩ := h
    split
    · split
      · exact muxRW_few (by simp) ⟨h0, h1, h2, h3, h4, h5, h6⟩ (by simp only; omega)
      · exact muxRW_few (by simp) ⟨h0, h1, h2, h3, h4, h5, h6⟩ (by simp only; omega)
    · exact muxBad_W _
  · exact muxBad_W _
-- who is asked
theorem whoF_ok {s : Mux} {who : Int} (h : muxF s = 0) (hp : Place s who) : whoF s who = 0 := by unfold whoF; rw [if_pos h, if_pos hp]
theorem whoF_n {s : Mux} {who : Int} (h : muxF s = 0) (hp : ¬ Place s who) : whoF s who = 4 := by unfold whoF; rw [if_pos h, if_neg hp]
theorem whoF_bad {s : Mux} {who : Int} (h : ¬ muxF s = 0) : whoF s who = muxF s := by unfold whoF; rw [if_neg h]
theorem whoF_is {s : Mux} {who : Int} (h : whoF s who = 0) : muxF s = 0 ∧ 0 ≤ who ∧ who ≤ s.cons.length - 1 := by
  unfold whoF at h
  split at h
  · split at h
    · exact ⟨by assumption, by assumption⟩
    · omega
  · exact absurd h (by assumption)
theorem whoF_first {s : Mux} {who g : Int} (h1 : 0 ≤ who ∧ who ≤ s.cons.length - 1 → g = 0) (h2 : ¬ (0 ≤ who ∧ who ≤ s.cons.length - 1) → g = 4) : firstNZ [muxF s, g] = whoF s who := by
  unfold whoF
  by_cases hf : muxF s = 0
  · rw [if_pos hf]
    by_cases hp : Place s who
    · rw [if_pos hp, h1 hp]; simp [firstNZ, hf]
    · rw [if_neg hp, h2 hp]; simp [firstNZ, hf]
  · rw [if_neg hf]; simp [firstNZ, hf]
-- polite
noncomputable def polR (s : Mux) (who : Int) (on : Bool) : MuxR := open Classical in
  if whoF s who = 0 then (if ¬ on = true ∧ who = s.active then ⟨0, false, [], { s with polite := s.polite.set who.toNat on, pending := 0 }⟩ else ⟨0, false, [], { s with polite := s.polite.set who.toNat on }⟩) else muxBad (whoF s who)
theorem polR_off {s : Mux} {who : Int} {on : Bool} (hf : whoF s who = 0) (hp : ¬ on = true ∧ who = s.active) : polR s who on = ⟨0, false, [], { s with polite := s.polite.set who.toNat on, pending := 0 }⟩ := by unfold polR; rw [if_pos hf, if_pos hp]
theorem polR_on {s : Mux} {who : Int} {on : Bool} (hf : whoF s who = 0) (hp : ¬ (¬ on = true ∧ who = s.active)) : polR s who on = ⟨0, false, [], { s with polite := s.polite.set who.toNat on }⟩ := by unfold polR; rw [if_pos hf, if_neg hp]
theorem polR_bad {s : Mux} {who : Int} {on : Bool} (hf : ¬ whoF s who = 0) : polR s who on = ⟨whoF s who, false, [], mux0⟩ := by unfold polR; rw [if_neg hf]
theorem polR_W {s : Mux} (h : MuxB s) (who : Int) (on : Bool) : MuxRW (polR s who on) := by
  unfold polR
  split
  · rename_i hf
    have hl := muxF_few (whoF_is hf).1
    obtain ⟨h0, h1, h2, h3, h4, h5, h6⟩ := h
    split
    · exact muxRW_few (by simp) ⟨h0, h1, by simpa using h2, h3, h4, h5, h6⟩ (by simp only; omega)
    · exact muxRW_few (by simp) ⟨h0, h1, by simpa using h2, h3, h4, h5, h6⟩ (by simp only; omega)
  · exact muxBad_W _
-- switched
noncomputable def swM (s : Mux) (who : Int) : Mux := open Classical in
  if who = s.active then s else if s.polite.getD s.active.toNat boolE.d = true then { s with pending := who + 1, asked := if s.asked + 1 ≤ 999 then s.asked + 1 else 999 } else { s with active := who }
noncomputable def swR (s : Mux) (who : Int) : MuxR := open Classical in if whoF s who = 0 then ⟨0, false, [], swM s who⟩ else muxBad (whoF s who)
theorem swR_ok {s : Mux} {who : Int} (hf : whoF s who = 0) : swR s who = ⟨0, false, [], swM s who⟩ := by unfold swR; rw [if_pos hf]
theorem swR_bad {s : Mux} {who : Int} (hf : ¬ whoF s who = 0) : swR s who = ⟨whoF s who, false, [], mux0⟩ := by unfold swR; rw [if_neg hf]
theorem swM_B {s : Mux} (h : MuxB s) (who : Int) : MuxB (swM s who) ∧ (swM s who).cons = s.cons := by
  obtain ⟨h0, h1, h2, h3, h4, h5, h6⟩ := h
  unfold swM
  split
  · exact ⟨⟨h0, h1, h2, h3, h4, h5, h6⟩, rfl⟩
  · split
    · exact ⟨⟨h0, h1, h2, h3, h4, h5, h6⟩, rfl⟩
    · exact ⟨⟨h0, h1, h2, h3, h4, h5, h6⟩, rfl⟩
theorem swR_W {s : Mux} (h : MuxB s) (who : Int) : MuxRW (swR s who) := by
  unfold swR
  split
  · rename_i hf
    have hl := muxF_few (whoF_is hf).1
    have hb := swM_B h who
    exact muxRW_few (by simp) hb.1 (by simp only [hb.2]; omega)
  · exact muxBad_W _
-- one console turned
noncomputable def oneR (s : Mux) (who : Int) (r : ConR) : MuxR := open Classical in
  if whoF s who = 0 then (if r.code = 0 then ⟨0, r.hit, r.bytes, { s with cons := s.cons.set who.toNat r.con }⟩ else muxBad r.code) else muxBad (whoF s who)
theorem oneR_ok {s : Mux} {who : Int} {r : ConR} (hf : whoF s who = 0) (hr : r.code = 0) : oneR s who r = ⟨0, r.hit, r.bytes, { s with cons := s.cons.set who.toNat r.con }⟩ := by unfold oneR; rw [if_pos hf, if_pos hr]
theorem oneR_n {s : Mux} {who : Int} {r : ConR} (hf : whoF s who = 0) (hr : ¬ r.code = 0) : oneR s who r = ⟨r.code, false, [], mux0⟩ := by unfold oneR; rw [if_pos hf, if_neg hr]
theorem oneR_bad {s : Mux} {who : Int} {r : ConR} (hf : ¬ whoF s who = 0) : oneR s who r = ⟨whoF s who, false, [], mux0⟩ := by unfold oneR; rw [if_neg hf]
theorem oneR_W {s : Mux} (h : MuxB s) (who : Int) {r : ConR} (hr : ConRB r) : MuxRW (oneR s who r) := by
  unfold oneR
  split
  · rename_i hf
    have hl := muxF_few (whoF_is hf).1
    obtain ⟨h0, h1, h2, h3, h4, h5, h6⟩ := h
    split
    · exact muxRW_few hr.bytes ⟨by simpa using h0, allCon_set h1 hr.con _, h2, h3, h4, h5, h6⟩ (by simp only [List.length_set]; omega)
    · exact muxBad_W _
  · exact muxBad_W _
end Go.Mu
