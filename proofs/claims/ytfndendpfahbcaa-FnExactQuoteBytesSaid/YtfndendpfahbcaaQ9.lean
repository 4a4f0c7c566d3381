/- The law on quoting, as a call in a world. -/
import Derived.Test.YtfndendpfahbcaaQ8
import Derived.Below
set_option linter.unusedSimpArgs false
set_option linter.unusedVariables false
namespace Go.Quote
open Go Go.Vm Go.RowKit Go.Proofs

def rho (k z : Nat) : Vm.Loc := fun b => match b with
  | Blk.glob g => some (g, 0)
  | Blk.loc 0 => some (k, z)
  | _ => none
def rho0 : Vm.Loc := fun b => match b with
  | Blk.glob g => some (g, 0)
  | _ => none

theorem hrel_junk {W : World} {ρ : Vm.Loc} (hg : ∀ g, ∃ z, ρ (.glob g) = some (g, z)) {off : Nat} {xs : List Int} (hl : Lies ρ 1 W false (.loc 0) (junk off xs)) : HRel S ρ ⟨[⟨.loc 0, false, junk off xs⟩], 1⟩ W where
  holds := fun e he => by
    have he : e = ⟨.loc 0, false, junk off xs⟩ := by simpa using he
    subst he
    exact .ofFlat rfl hl
  key := fun e he => by
    have he : e = ⟨.loc 0, false, junk off xs⟩ := by simpa using he
    subst he
    exact ⟨fun n hn => by simp [Blk.root] at hn; subst hn; exact Nat.one_pos, trivial⟩
  sep := fun e he e' he' hor => by
    have he : e = ⟨.loc 0, false, junk off xs⟩ := by simpa using he
    have he' : e' = ⟨.loc 0, false, junk off xs⟩ := by simpa using he'
    subst he; subst he'
    simp at hor
  keys := by simp
  glob := hg
  enc := fun e he => by
    have he : e = ⟨.loc 0, false, junk off xs⟩ := by simpa using he
    subst he
    exact trivial

theorem call_junk {W : World} {ρ : Vm.Loc} {off : Nat} {xs : List Int} {r : Value} (hH : HRel S ρ ⟨[⟨.loc 0, false, junk off xs⟩], 1⟩ W) (hb : ∀ b ∈ xs, 0 ≤ b ∧ b < 256)
    (hr : VRel ρ (.sl (.loc 0) 1 (some off) xs.length) r) : Calls Try.prog 3 #[r] W fun e W' => e = .returned (.bool true) ∧ Below W.heap.size W W' := by
  have h := lawQuoteJ off xs hb
  unfold CallA at h
  refine (h ρ W [r] hH ⟨r, [], rfl, hr, rfl⟩ ⟨fun n hn => by simp [Blk.root] at hn; subst hn; exact Nat.one_pos, trivial⟩).mono ?_
  rintro e W' ⟨v, r', H', ρ', rfl, ⟨_, _, rfl, rfl⟩, hv, _, ha⟩
  have hv : r' = .bool true := hv
  subst hv
  refine ⟨rfl, ha.os, ha.tape, ha.output, ha.size, fun k hk => ha.frame k hk ?_⟩
  rintro ⟨e, he, hrw, _⟩
  have he : e = ⟨.loc 0, false, junk off xs⟩ := by simpa using he
  subst he
  simp at hrw

def IsRow (k : IntKind) (w : World) (a : Option Addr) (len cap : Nat) (zs : List Int) : Prop :=
  (a = none ∧ len = 0 ∧ cap = 0 ∧ zs = []) ∨
  ∃ x, a = some x ∧ len ≤ cap ∧ cap ≤ maxLen ∧ zs.length = cap ∧ (∀ i, i < zs.length → w.cell? (x.add i) = some (.int k (zs.getD i 0))) ∧ ∀ n ∈ zs, (Lit.int k n).wf = true

theorem call_row {W : World} {a : Option Addr} {len cap : Nat} {zs : List Int} (h : IsRow .u8 W a len cap zs) :
    Calls Try.prog 3 #[.slice a len cap] W fun e W' => e = .returned (.bool true) ∧ Below W.heap.size W W' := by
  have hnone : len = 0 → cap = 0 → Calls Try.prog 3 #[.slice a len cap] W fun e W' => e = .returned (.bool true) ∧ Below W.heap.size W W' := by
    rintro rfl rfl
    refine call_junk (ρ := rho0) (off := 0) (xs := []) (hrel_junk (fun g => ⟨0, rfl⟩) ?_) (by simp) (.inl ⟨rfl, rfl, rfl, a, rfl⟩)
    show (junk 0 []).empty
    rfl
  rcases h with ⟨rfl, rfl, rfl, rfl⟩ | ⟨x, rfl, h1, h2, h3, h4, h5⟩
  · exact hnone rfl rfl
  · by_cases hc : cap = 0
    · exact hnone (by omega) hc
    · have hcell := h4 0 (by omega)
      obtain ⟨k, off, spot⟩ := x
      simp only [World.cell?, Addr.add, if_true] at hcell
      cases hh : W.heap[k]? with
      | none => rw [hh] at hcell; simp at hcell
      | some o =>
        cases o with
        | cells c T fz =>
          rw [hh] at hcell
          cases spot with
          | some s => simp at hcell
          | none =>
            have hall : ∀ i, i < zs.length → c[off + i]? = some (.int .u8 (zs.getD i 0)) := fun i hi => by
              have := h4 i hi
              by_cases h0 : i = 0
              · subst h0; simpa [World.cell?, Addr.add, hh] using this
              · simpa [World.cell?, Addr.add, hh, h0] using this
            have hsize : off + cap ≤ c.size := by
              have := (Array.getElem?_eq_some_iff.1 (hall (cap - 1) (by omega))).1
              omega
            have hlen : (zs.take len).length = len := by simp; omega
            refine call_junk (ρ := rho k c.size) (off := off) (xs := zs.take len) (hrel_junk (fun g => ⟨0, rfl⟩) ?_) ?_ ?_
            · show ∃ arr T fz, _
              refine ⟨c, T, fz, hh, rfl, fun q => by simp at q, ?_⟩
              refine ⟨by simp; omega, fun i hi => ?_⟩
              have hi : i < off + len := by
                have := hi
                simp at this
                omega
              have hlt : i < c.size := by omega
              have hone : (c.toList.drop (i * 1)).take 1 = [c[i]] := by
                rw [Nat.mul_one, List.drop_eq_getElem_cons (by simpa using hlt)]
                simp
              rw [hone]
              show VRels _ (junkC (.loc 0) i ((List.replicate off none ++ (zs.take len).map some).getD i none)) _ ∧ AV.lts 1 (junkC (.loc 0) i ((List.replicate off none ++ (zs.take len).map some).getD i none))
              rcases Nat.lt_or_ge i off with q | q
              · have e : (List.replicate off none ++ (zs.take len).map some).getD i none = none := by
                  rw [List.getD_eq_getElem?_getD, List.getElem?_append_left (by simpa using q)]
                  simp [q]
                rw [e]
                exact ⟨⟨_, [], rfl, trivial, rfl⟩, trivial, trivial⟩
              · have e : (List.replicate off none ++ (zs.take len).map some).getD i none = some (zs.getD (i - off) 0) := by
                  rw [List.getD_eq_getElem?_getD, List.getElem?_append_right (by simpa using q)]
                  have h1 : i - off < len := by omega
                  have h2 : i - off < zs.length := by omega
                  simp [h1, h2]
                rw [e]
                have hv := hall (i - off) (by omega)
                rw [show off + (i - off) = i by omega, Array.getElem?_eq_getElem hlt] at hv
                exact ⟨⟨_, [], rfl, Option.some.inj hv, rfl⟩, trivial, trivial⟩
            · intro b hb
              have := h5 b (List.mem_of_mem_take hb)
              simp only [Lit.wf, Bool.and_eq_true, decide_eq_true_eq] at this
              have h1 : IntKind.min .u8 = 0 := by decide
              have h2 : IntKind.max .u8 = 255 := by decide
              rw [h1, h2] at this
              omega
            · right
              refine ⟨k, c.size, cap, off, rfl, by simp, by simp, by simp; omega, by simp [maxLen] at h2; omega, by simp; omega, .inr (by simp), ?_⟩
              rw [hlen]; rfl
        | _ => rw [hh] at hcell; simp at hcell
end Go.Quote
