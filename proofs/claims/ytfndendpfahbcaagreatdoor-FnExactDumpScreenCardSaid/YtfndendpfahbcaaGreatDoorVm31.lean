/- An abstract machine over the loaded code: arguments opened. -/
import Derived.Test.YtfndendpfahbcaaGreatDoorVm30
import Derived.Deep.Slices
import Derived.Deep.SlicePairs
import Derived.ChangeArms
set_option linter.unusedSimpArgs false
set_option linter.unusedVariables false
namespace Go.Vm
open Go.RowKit

/-- a type whose cells an encoding tells -/
def FlatT (H : Type) (P : Program) (e : TypeId) {α : Type} (E : Enc α) (Q : α → Prop) : Prop :=
  P.cellsOf e = E.m ∧ ∀ (enc : TypeId × Value → H) (w : World) (base : Nat) (spare : Nat → Bool) (held : Bool) (fuel : Nat) (cs : List Value) (x : DataW H × List MemPlace),
    DataW.trod enc P w base spare held fuel e cs = some x → ∃ a, Q a ∧ ∀ ρ, VRels ρ (E.cells a) cs

theorem flat_int {H : Type} {P : Program} {e : TypeId} {k : IntKind} (he : P.underlying e = some (.int k)) (hc : P.cellsOf e = 1) : FlatT H P e (intE k) (fun n => (Lit.int k n).wf = true) :=
  ⟨hc, fun _ _ _ _ _ _ _ _ h => by
    obtain ⟨n, rfl, _, hw⟩ := DataW.trod_int he h
    exact ⟨n, hw, fun ρ => ⟨_, [], rfl, rfl, rfl⟩⟩⟩
theorem flat_bool {H : Type} {P : Program} {e : TypeId} (he : P.underlying e = some .bool) (hc : P.cellsOf e = 1) : FlatT H P e boolE (fun _ => True) :=
  ⟨hc, fun _ _ _ _ _ _ _ _ h => by
    obtain ⟨b, rfl, _⟩ := DataW.trod_bool he h
    exact ⟨b, trivial, fun ρ => ⟨_, [], rfl, ⟨b, rfl, Iff.rfl⟩, rfl⟩⟩⟩
theorem flat_pair {H : Type} {P : Program} {e f : TypeId} {f0 f1 : Field} (he : P.underlying e = some (.struct #[f0, f1])) (hc : P.cellsOf e = 2) (h0 : f0.type = f) (h1 : f1.type = f)
    (o0 : f0.offset = 0) (o1 : f1.offset = 1) (hf : P.underlying f = some (.int .i64)) (hfc : P.cellsOf f = 1) : FlatT H P e pairE (fun p => (Lit.int .i64 p.1).wf = true ∧ (Lit.int .i64 p.2).wf = true) :=
  ⟨hc, fun _ _ _ _ _ _ cs _ h => by
    obtain ⟨xs, k, hk, hxy, hl, hxl, hfs⟩ := DataW.trod_struct he h
    have g0 := hfs 0 f0 rfl
    have g1 := hfs 1 f1 rfl
    rw [hc] at hl
    match xs, hxl, cs, hl with
    | [y0, y1], _, [v0, v1], _ =>
      simp [o0, o1, h0, h1, hfc] at g0 g1
      obtain ⟨a, e0, _, w0⟩ := DataW.trod_int hf g0
      obtain ⟨b, e1, _, w1⟩ := DataW.trod_int hf g1
      simp only [List.cons.injEq, and_true] at e0 e1
      subst e0; subst e1
      exact ⟨(a, b), ⟨w0, w1⟩, fun ρ => ⟨_, _, rfl, rfl, ⟨_, [], rfl, rfl, rfl⟩⟩⟩⟩

theorem open_sl {H : Type} {enc : TypeId × Value → H} {P : Program} {W : World} {base : Nat} {held : Bool} {fuel : Nat} {t e : TypeId} {v : Value} {x : DataW H × List MemPlace} {α : Type} {E : Enc α} {Q : α → Prop}
    (ht : P.underlying t = some (.slice e)) (hE : EncOk P e E) (hF : FlatT H P e E Q) (h : DataW.trod enc P W base (fun _ => true) held fuel t [v] = some x) :
    ∃ (xs : List α) (q : Option (Nat × (Nat × Nat))), (∀ a ∈ xs, Q a) ∧ ∀ (ρ : Loc) (n N : Nat), ρ (.loc n) = q → VRel ρ (.sl (.loc n) E.m none xs.length) v ∧ Lies ρ N W false (.loc n) (.arr E xs) := by
  have hnil : (∃ a, v = .slice a 0 0) → ∃ (xs : List α) (q : Option (Nat × (Nat × Nat))), (∀ a ∈ xs, Q a) ∧ ∀ (ρ : Loc) (n N : Nat), ρ (.loc n) = q → VRel ρ (.sl (.loc n) E.m none xs.length) v ∧ Lies ρ N W false (.loc n) (.arr E xs) := by
    rintro ⟨a, rfl⟩
    refine ⟨[], none, by simp, fun ρ n N hq => ⟨.inl ⟨hq, rfl, rfl, a, rfl⟩, ?_⟩⟩
    unfold Lies
    rw [hq]
    rfl
  rcases Go.Deep.open_slice ht h with ⟨hcs, _⟩ | ⟨a, len, cap, m, n0, D, Pl, hcs, hb, hl, hm, hmm, _, hel⟩
  · simp only [List.cons.injEq, and_true] at hcs
    exact hnil ⟨_, hcs⟩
  · simp only [List.cons.injEq, and_true] at hcs
    subst hcs
    simp only [if_true] at hmm
    subst hmm
    rcases Nat.eq_zero_or_pos m with h0 | hpos
    · have : len = 0 := by omega
      subst h0; subst this
      exact hnil ⟨_, rfl⟩
    · haveI : Inhabited α := ⟨E.d⟩
      obtain ⟨A, hA⟩ := Go.Deep.choose_lt (p := fun i y => Q y ∧ ∃ cs', W.cells? base (a.add (i * E.m)) E.m = some cs' ∧ ∀ ρ, VRels ρ (E.cells y) cs') (fun i hi => by
        obtain ⟨cs', h1, h2⟩ := hel i hi
        rw [hF.1] at h1
        obtain ⟨y, hy, hr⟩ := hF.2 _ _ _ _ _ _ _ _ h2
        exact ⟨y, hy, cs', h1, hr⟩)
      have hmpos : 0 < E.m := hE.pos
      -- the block
      obtain ⟨_, cs0, hc0, _⟩ := hA 0 hpos
      obtain ⟨_, hlen0, hcell0⟩ := World.cells?_some hc0
      have h00 := hcell0 0 hmpos
      obtain ⟨k, off, spot⟩ := a
      have hsome : cs0[0]? = some (cs0[0]'(by omega)) := by simp [hlen0, hmpos]
      rw [hsome] at h00
      simp only [Nat.zero_mul, Addr.add, if_true] at h00
      unfold World.cell? at h00
      simp only at h00
      split at h00
      · rename_i c T fz hh
        split at h00
        · simp at h00
        · rename_i hsp
          have hsp : spot = none := by simpa using hsp
          subst hsp
          have hcell : ∀ i, i < m → ∀ j, j < E.m → ∃ cs', cs'.length = E.m ∧ (∀ ρ, VRels ρ (E.cells (A i)) cs') ∧ ∀ j, j < E.m → c[off + (i * E.m + j)]? = cs'[j]? := by
            intro i hi j hj
            obtain ⟨_, cs', h1, h2⟩ := hA i hi
            obtain ⟨_, h3, h4⟩ := World.cells?_some h1
            refine ⟨cs', h3, h2, fun j hj => ?_⟩
            have h5 := h4 j hj
            have e5 : ((⟨k, off, none⟩ : Addr).add (i * E.m)).add j = ⟨k, off + (i * E.m + j), none⟩ := by
              unfold Addr.add
              split
              · split <;> simp_all
              · split <;> simp_all [Nat.add_assoc]
            rw [e5] at h5
            simpa [World.cell?, hh] using h5
          have hsize : off + m * E.m ≤ c.size := by
            obtain ⟨cs', h1, _, h3⟩ := hcell (m - 1) (by omega) (E.m - 1) (by omega)
            have h4 := h3 (E.m - 1) (by omega)
            rw [show cs'[E.m - 1]? = some (cs'[E.m - 1]'(by omega)) by simp [h1, hmpos]] at h4
            have h5 := (Array.getElem?_eq_some_iff.1 h4).1
            have h6 : (m - 1) * E.m + E.m = m * E.m := by
              rw [← Nat.succ_mul]; congr 1; omega
            omega
          have hlm : len * E.m ≤ m * E.m := Nat.mul_le_mul_right _ hl
          refine ⟨(List.range len).map A, some (k, (off, m * E.m)), ?_, fun ρ n N hq => ⟨.inr ⟨k, (off, m * E.m), m, off, hq, ?_, ?_, ?_, ?_, ?_, .inr ?_, ?_⟩, ?_⟩⟩
          · intro y hy
            obtain ⟨i, hi, rfl⟩ := List.mem_map.1 hy
            exact (hA i (by have := List.mem_range.1 hi; omega)).1
          · simp
          · simp
          · simpa using hl
          · exact hm
          · simp
          · simp
          · simp
          · unfold Lies
            simp only [hq]
            refine ⟨c, T, fz, hh, hsize, (fun q => by cases q), ?_⟩
            refine ⟨?_, fun i hi => ⟨?_, hE.plain _ _⟩⟩
            · rw [own_size hsize]; simpa using hlm
            · have hi : i < len := by simpa using hi
              obtain ⟨cs', g1, g2, g3⟩ := hcell i (by omega) 0 hmpos
              have e1 : ((own c (off, m * E.m)).toList.drop (i * E.m)).take E.m = cs' := by
                apply List.ext_getElem?
                intro j
                rw [List.getElem?_take]
                split
                · rename_i hj
                  rw [List.getElem?_drop]
                  have hj2 : i * E.m + j < m * E.m := by
                    have : (i + 1) * E.m ≤ m * E.m := Nat.mul_le_mul_right _ (by omega)
                    rw [Nat.succ_mul] at this
                    omega
                  unfold own
                  simp only
                  rw [List.getElem?_take, if_pos hj2, List.getElem?_drop]
                  simpa using g3 j hj
                · rename_i hj
                  rw [List.getElem?_eq_none (by omega)]
              rw [e1]
              have e2 : ((List.range len).map A).getD i E.d = A i := by simp [List.getD_eq_getElem?_getD, hi]
              show VRels ρ (E.cells (((List.range len).map A).getD i E.d)) cs'
              rw [e2]
              exact g2 ρ
      · simp at h00

theorem hrel_ro {S : Seat} {ρ : Loc} {W : World} {es : List Ent} {N : Nat} (hl : ∀ e ∈ es, e.rw = false ∧ e.c.flat ∧ ContOk S e.c ∧ Lies ρ N W false e.b e.c ∧ e.b.lt N ∧ e.b.isKey)
    (hk : es.Pairwise fun e e' => e.b ≠ e'.b) (hg : ∀ g, ∃ n, ρ (.glob g) = some (g, (0, n))) : HRel S ρ ⟨es, N⟩ W where
  holds := fun e he => by
    obtain ⟨h1, h2, _, h4, _⟩ := hl e he
    rw [h1]
    exact .ofFlat h2 h4
  key := fun e he => (hl e he).2.2.2.2
  sep := fun e he e' he' hor => by
    rw [(hl e he).1, (hl e' he').1] at hor
    simp at hor
  keys := hk
  glob := hg
  enc := fun e he => (hl e he).2.2.1
theorem noRw {ρ : Loc} {es : List Ent} {N : Nat} (h : ∀ e ∈ es, e.rw = false) (k : Nat) : ¬ RwB ρ ⟨es, N⟩ k := by
  rintro ⟨e, he, hrw, _⟩
  rw [h e he] at hrw
  cases hrw
/-- places of arguments -/
def argLoc (l : List (Option (Nat × (Nat × Nat)))) : Loc := fun b => match b with
  | .glob g => some (g, (0, 0))
  | .loc n => l.getD n none
  | _ => none
end Go.Vm
