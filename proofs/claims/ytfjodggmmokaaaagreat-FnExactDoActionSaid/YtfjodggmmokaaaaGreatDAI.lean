/- An abstract machine over the loaded code: what a call leaves of the rest. -/
import Derived.Test.YtfjodggmmokaaaaGreatDAH
import Derived.StillTail
set_option linter.unusedSimpArgs false
set_option linter.unusedVariables false
set_option linter.constructorNameAsVariable false
namespace Go.Vm
open Go.RowKit
theorem VRels.of_get {ρ : Loc} : ∀ {vs : List AV} {rs : List Value}, rs.length = vs.length → (∀ t (h : t < vs.length), ∃ r, rs[t]? = some r ∧ VRel ρ vs[t] r) → VRels ρ vs rs
  | [], rs, hl, _ => List.eq_nil_of_length_eq_zero (by simpa using hl)
  | v :: vs, [], hl, _ => by simp at hl
  | v :: vs, r :: rs, hl, h => by
    obtain ⟨r', e, h1⟩ := h 0 (by simp)
    simp at e; subst e
    exact ⟨_, _, rfl, h1, VRels.of_get (by simpa using hl) fun t ht => by
      obtain ⟨r, e, q⟩ := h (t + 1) (by simp; omega)
      exact ⟨r, by simpa using e, by simpa using q⟩⟩
theorem VRels.nth {ρ : Loc} : ∀ {vs : List AV} {rs : List Value}, VRels ρ vs rs → ∀ t (h : t < vs.length), ∃ r, rs[t]? = some r ∧ VRel ρ vs[t] r
  | [], _, _, t, h => by simp at h
  | v :: vs, _, ⟨r, rs, rfl, h1, h2⟩, t, h => by
    cases t with
    | zero => exact ⟨r, rfl, h1⟩
    | succ t =>
      obtain ⟨r', e, q⟩ := VRels.nth h2 t (by simpa using h)
      exact ⟨r', by simpa using e, by simpa using q⟩
def celOf : Cont → Option (Nat × List AV)
  | .raw ws => some (0, ws)
  | .arr _ _ => none
  | .nest m _ _ _ _ _ o => match o with
    | none => none
    | some p => some (p.1.toNat * m, p.2)
def setCel (c : Cont) (cs : List AV) : Cont := match c with
  | .raw _ => .raw cs
  | .arr E xs => .arr E xs
  | .nest m d g s f xs o => .nest m d g s f xs (o.map fun p => (p.1, cs))
theorem celOf_set {c : Cont} {off : Nat} {cs cs' : List AV} (h : celOf c = some (off, cs)) : celOf (setCel c cs') = some (off, cs') := by
  cases c with
  | raw ws => simp [celOf] at h; simp [setCel, celOf, h.1]
  | arr E xs => simp [celOf] at h
  | nest m d g s f xs o =>
    cases o with
    | none => simp [celOf] at h
    | some p => simp [celOf] at h; simp [setCel, celOf, h.1]
theorem setCel_set (c : Cont) (cs cs' : List AV) : setCel (setCel c cs) cs' = setCel c cs' := by
  cases c with
  | raw ws => rfl
  | arr E xs => rfl
  | nest m d g s f xs o => cases o <;> rfl
theorem setCel_self {c : Cont} {off : Nat} {cs : List AV} (h : celOf c = some (off, cs)) : setCel c cs = c := by
  cases c with
  | raw ws => simp [celOf] at h; simp [setCel, h.2]
  | arr E xs => rfl
  | nest m d g s f xs o =>
    cases o with
    | none => simp [celOf] at h
    | some p => simp [celOf] at h; simp [setCel, ← h.2]
section
variable {S : Seat} {ρ ρ' : Loc} {w w' : World} {N N' : Nat}
theorem contOk_set {c : Cont} {cs : List AV} (h : ContOk S c) : ContOk S (setCel c cs) := by
  cases c with
  | raw ws => trivial
  | arr E xs => exact h
  | nest m d g s f xs o => exact h
theorem HoldsE.recell {c : Cont} {off : Nat} {cs cs' : List AV} {b : Blk} {F : Foot} (hc : celOf c = some (off, cs)) (hl : cs'.length = cs.length) (h : HoldsE ρ N w true c b F) (hok : ContOk S c) (hlt : b.lt N) (ha : Agree N ρ ρ') (hN : N ≤ N')
    (hk : KeepF (fun k x => F k x ∧ ¬ ∃ z, ρ b = some (k, z) ∧ z.1 + off ≤ x ∧ x < z.1 + off + cs.length) w w')
    (hcells : ∀ k z arr' T fz, ρ b = some (k, z) → w'.heap[k]? = some (.cells arr' T fz) → ∀ t (h : t < cs'.length), ∃ r, arr'[z.1 + off + t]? = some r ∧ VRel ρ' cs'[t] r) (hlts : AV.lts N' cs') :
    HoldsE ρ' N' w' true (setCel c cs') b F := by
  have hreg : ∀ k x, regF (ρ' b) k x → F k x := fun k x q => h.reg.2 k x (ha b hlt ▸ q)
  cases c with
  | arr E xs => simp [celOf] at hc
  | raw ws =>
    simp only [celOf, Option.some.injEq, Prod.mk.injEq] at hc
    obtain ⟨rfl, rfl⟩ := hc
    refine ⟨?_, hreg⟩
    have hlie := h.raw.1
    unfold Lies at hlie ⊢
    rw [ha b hlt]
    cases hb : ρ b with
    | none =>
      rw [hb] at hlie
      have hlie : ws = [] := hlie
      subst hlie
      exact List.eq_nil_of_length_eq_zero (by simpa using hl)
    | some kz =>
      rw [hb] at hlie
      obtain ⟨k, z⟩ := kz
      obtain ⟨arr, T, fz, g1, g2, g3, g4, g5, g6⟩ := hlie
      obtain ⟨arr', fz', k1, k2, k3, k4⟩ := hk k arr T fz g1
      rw [own_size g2] at g4
      refine ⟨arr', T, fz', k1, by omega, fun q => k3 (g3 q), ?_, ?_, hlts⟩
      · rw [own_size (by omega), hl]; exact g4
      · have hll : (own arr' z).toList.length = z.2 := by simp [own_size (arr := arr') (z := z) (by omega)]
        refine VRels.of_get (by rw [List.length_take, hll]; omega) fun t ht => ?_
        obtain ⟨r, q1, q2⟩ := hcells k z arr' T fz' hb k1 t ht
        refine ⟨r, ?_, q2⟩
        simp only [own, List.getElem?_take, List.getElem?_drop]
        rw [if_pos ht, if_pos (by omega)]
        rw [Array.getElem?_toList]
        simpa using q1
  | nest m d g s f xs o =>
    cases o with
    | none => simp [celOf] at hc
    | some p =>
      obtain ⟨i0, cs0⟩ := p
      simp only [celOf, Option.some.injEq, Prod.mk.injEq] at hc
      obtain ⟨rfl, rfl⟩ := hc
      obtain ⟨⟨ρ1, h1, h2⟩, h3⟩ := h
      obtain ⟨p1, p2, p3, p4, k, z, arr, T, fz, p5, p6, p7⟩ := h3
      simp only at p1 p2 p3 p4 p5 p6 p7
      obtain ⟨n0, rfl⟩ := Int.eq_ofNat_of_zero_le p1
      simp only [Int.toNat_natCast] at *
      obtain ⟨⟨hl1, hl2⟩, Fs, g1, g2, g3⟩ := h2
      obtain ⟨g4, g5⟩ := g3 rfl
      have hself : ρ1 b = ρ b := h1 b (not_under_self b)
      have hagr : Agree N ρ1 (mixL b ρ1 ρ') := mixL_agree h1 ha
      have hself2 : mixL b ρ1 ρ' b = ρ1 b := hagr b hlt
      have hb1 : ρ1 b = some (k, z) := hself.trans p5
      simp only [Lies, hb1] at hl1
      obtain ⟨arr2, T2, fz2, e1, e2, e3, e4, e5⟩ := hl1
      rw [p6] at e1
      simp at e1
      obtain ⟨rfl, rfl, rfl⟩ := e1
      obtain ⟨arr', fz', k1, k2, k3, k4⟩ := hk k arr T fz p6
      have hsz := own_size e2
      have hsz' := own_size (arr := arr') (z := z) (by omega)
      rw [hsz] at e4
      have hfit : n0 * m + m ≤ z.2 := by
        have : (n0 + 1) * m ≤ totalN (some ((n0 : Int), cs0)) xs.length * m := Nat.mul_le_mul_right _ (by simp only [totalN, Int.toNat_natCast]; omega)
        rw [Nat.add_mul, Nat.one_mul] at this; omega
      refine ⟨⟨mixL b ρ1 ρ', mixL_off _ _ _, ⟨?_, fun k x q => hl2 k x (hself2 ▸ q)⟩, Fs, fun i hi hv j hj => ?_, g2, fun _ => ⟨fun i hi hv j hj => by rw [hself2]; exact g4 i hi hv j hj, g5⟩⟩, ?_⟩
      · simp only [Lies, hself2, hb1]
        refine ⟨arr', T, fz', k1, by omega, fun q => k3 (e3 q), by rw [hsz']; exact e4, fun i hi hv => ?_⟩
        have hv' : (i : Int) ≠ n0 := hv
        have e : (((own arr' z).toList.drop (i * m)).take m) = (((own arr z).toList.drop (i * m)).take m) := by
          have him : i * m + m ≤ z.2 := by
            have : (i + 1) * m ≤ totalN (some ((n0 : Int), cs0)) xs.length * m := Nat.mul_le_mul_right _ (by simp only [totalN]; omega)
            rw [Nat.add_mul, Nat.one_mul] at this; omega
          apply List.ext_getElem?
          intro q
          simp only [own, List.getElem?_take, List.getElem?_drop]
          split
          · rename_i hq
            rw [if_pos (by omega), if_pos (by omega), Array.getElem?_toList, Array.getElem?_toList]
            refine k4 _ ⟨hl2 k _ ⟨z, hb1, by omega, by omega⟩, ?_⟩
            rintro ⟨z', q1, q2, q3⟩
            rw [p5] at q1
            simp at q1
            subst q1
            rcases Nat.lt_or_ge i n0 with hlt' | hge
            · have : (i + 1) * m ≤ n0 * m := Nat.mul_le_mul_right _ (by omega)
              rw [Nat.add_mul, Nat.one_mul] at this; omega
            · have : (n0 + 1) * m ≤ i * m := Nat.mul_le_mul_right _ (by omega)
              rw [Nat.add_mul, Nat.one_mul] at this; omega
          · rfl
        rw [e]
        obtain ⟨⟨T0, hT⟩, _⟩ := hok
        exact VRels.agree hagr (hT.lt _ _ _ fun j _ => hlt.sub) (e5 i hi hv)
      · refine Holds.turn (hok.2 _ _).1 (g1 i hi hv j hj) hlt.sub hagr hN (hk.mono fun k' x q => ⟨g2 i hi hv j hj k' x q, ?_⟩)
        rintro ⟨z', q1, q2, q3⟩
        rw [p5] at q1
        simp only [Option.some.injEq, Prod.mk.injEq] at q1
        obtain ⟨rfl, rfl⟩ := q1
        exact g4 i hi hv j hj k x ⟨z, hb1, by omega, by omega⟩ q
      · refine ⟨by omega, p2, by simp only; rw [hl]; exact p3, hlts, k, z, arr', T, fz', by rw [ha b hlt]; exact p5, k1, ?_⟩
        simp only [Int.toNat_natCast]
        have hll : (own arr' z).toList.length = z.2 := by simp [hsz']
        refine VRels.of_get (by rw [List.length_take, List.length_drop, hll, hl, p3]; omega) fun t ht => ?_
        obtain ⟨r, q1, q2⟩ := hcells k z arr' T fz' p5 k1 t ht
        refine ⟨r, ?_, q2⟩
        simp only [own, List.getElem?_take, List.getElem?_drop]
        rw [if_pos (by omega), if_pos (by omega), Array.getElem?_toList]
        rw [← q1]; congr 1; omega
theorem putC_out {i : Option Int} {m j : Nat} {vs : List AV} {c : Cont} {K : Cont → Prop} (h : putC i m j vs c K) :
    ∃ off cs, celOf c = some (off, cs) ∧ off ≤ (i.getD 0).toNat * m + j ∧ (i.getD 0).toNat * m + j + vs.length ≤ off + cs.length ∧ K (setCel c (putL cs ((i.getD 0).toNat * m + j - off) vs)) := by
  unfold putC at h
  split at h
  · split at h
    · split at h
      · rename_i hle
        have hle := Nat.le_of_ble_eq_true hle
        have h := forceL_out h
        exact ⟨0, _, rfl, by simp, by simpa using hle, by simpa [setCel] using h⟩
      · exact h.elim
    · split at h
      · rename_i a hle
        have hle := Nat.le_of_ble_eq_true hle
        have h := forceL_out h
        exact ⟨0, _, rfl, by simp, by simpa using hle, by simpa [setCel] using h⟩
      · exact h.elim
    · exact h.elim
  · exact h.elim
  · split at h
    · exact h.elim
    · split at h
      rename_i i0 cs
      split at h
      · exact h.elim
      · split at h
        · exact h.elim
        · rename_i hm
          have hm := Nat.eq_of_beq_eq_true hm
          subst hm
          split at h
          · rename_i hle
            have hle := Nat.le_of_ble_eq_true hle
            obtain ⟨rfl, h⟩ := h
            have h := forceL_out h
            refine ⟨_, _, rfl, by simp, by simp; omega, ?_⟩
            simp only [Option.getD_some, Nat.add_sub_cancel_left, setCel, Option.map_some]
            exact h
          · exact h.elim
end
section
variable {S : Seat} {ρ : Lay} {ρ0 : Lay} {ρ' : Loc} {ρh : Loc} {f g : Nat → Option Pl} {w w' : World} {N' k : Nat}
def Stale (f : Nat → Option Pl) (b : Blk) (t : List Ent) (q : Nat) : Prop := ∃ e ∈ t, e.rw = true ∧ ∃ i m j n, renB f e.b = some (.view b i m j n) ∧ (i.getD 0).toNat * m + j ≤ q ∧ q < (i.getD 0).toNat * m + j + n
def Fresh (ρ' : Loc) (N' : Nat) (arr : Array Value) (z : Nat × Nat) (D : Nat → Prop) (c : Cont) : Prop := ∀ off cs, celOf c = some (off, cs) → AV.lts N' cs ∧ ∀ t (h : t < cs.length), ¬ D (off + t) → ∃ r, arr[z.1 + off + t]? = some r ∧ VRel ρ' cs[t] r
theorem spliceE_out {H' : Heap} (hH : HRel S ρ0 H' w') (hg : ∀ b : Blk, okB true b = true → ρ0.loc b = (renB g b).bind (plLoc ρ')) {l0 : List Ent} (hpl : ∀ e ∈ l0, ∀ p, renB f e.b = some p → ρ0.loc e.b = plLoc ρ.loc p) {b : Blk} (hbk : b.isKey) {z : Nat × Nat} {kb : Nat} (hb : ρ.loc b = some (kb, z)) {arr : Array Value} {T : TypeId} {fz : Nat × Nat} (harr : w'.heap[kb]? = some (.cells arr T fz)) :
    ∀ {t : List Ent} {c : Cont} {K : Cont → Prop}, (∀ e ∈ t, e ∈ l0) → Fresh ρ' N' arr z (Stale f b t) c → spliceE f g H'.ents N' b t c K →
      ∃ c', K c' ∧ Fresh ρ' N' arr z (fun _ => False) c' ∧ (c' = c ∨ (∃ y ∈ t, y.rw = true ∧ ∃ p, renB f y.b = some p ∧ p.blk = b ∧ ∀ B, p ≠ .whole B) ∧ ∃ off cs cs', celOf c = some (off, cs) ∧ cs'.length = cs.length ∧ c' = setCel c cs') ∧
        (∀ e ∈ t, e.rw = true → ∀ p, renB f e.b = some p → plB p = plB (.whole b) → p.blk = b → (∃ B, p = .whole B) ∨ ∃ x ∈ H'.ents, x.b = e.b ∧ x.rw = true ∧ ∃ off cs i m j n, celOf c = some (off, cs) ∧ p = .view b i m j n ∧ off ≤ (i.getD 0).toNat * m + j ∧ (i.getD 0).toNat * m + j + n ≤ off + cs.length)
  | [], c, K, _, hf, h => ⟨c, h, fun off cs hc => ⟨(hf off cs hc).1, fun t ht _ => (hf off cs hc).2 t ht (by rintro ⟨e, he, _⟩; simp at he)⟩, .inl rfl, by simp⟩
  | e :: t, c, K, hm, hf, h => by
    have hm' : ∀ x ∈ t, x ∈ l0 := fun x hx => hm x (List.mem_cons_of_mem _ hx)
    have skip : (e.rw = true → ∀ p, renB f e.b = some p → p.blk = b → ∃ B, p = .whole B) → spliceE f g H'.ents N' b t c K →
        ∃ c', K c' ∧ Fresh ρ' N' arr z (fun _ => False) c' ∧ (c' = c ∨ (∃ y ∈ e :: t, y.rw = true ∧ ∃ p, renB f y.b = some p ∧ p.blk = b ∧ ∀ B, p ≠ .whole B) ∧ ∃ off cs cs', celOf c = some (off, cs) ∧ cs'.length = cs.length ∧ c' = setCel c cs') ∧
          (∀ x ∈ e :: t, x.rw = true → ∀ p, renB f x.b = some p → plB p = plB (.whole b) → p.blk = b → (∃ B, p = .whole B) ∨ ∃ y ∈ H'.ents, y.b = x.b ∧ y.rw = true ∧ ∃ off cs i m j n, celOf c = some (off, cs) ∧ p = .view b i m j n ∧ off ≤ (i.getD 0).toNat * m + j ∧ (i.getD 0).toNat * m + j + n ≤ off + cs.length) := by
      intro hno h
      have hf' : Fresh ρ' N' arr z (Stale f b t) c := fun off cs hc => ⟨(hf off cs hc).1, fun q hq hD => (hf off cs hc).2 q hq (by
        rintro ⟨x, hx, hr, i, m, j, n, h1, h2, h3⟩
        rcases List.mem_cons.1 hx with rfl | hx
        · obtain ⟨B, hB⟩ := hno hr _ h1 rfl
          simp at hB
        · exact hD ⟨x, hx, hr, i, m, j, n, h1, h2, h3⟩)⟩
      obtain ⟨c', k1, k2, k3, k4⟩ := spliceE_out hH hg hpl hbk hb harr hm' hf' h
      refine ⟨c', k1, k2, k3.imp id fun ⟨⟨y, y1, y2⟩, q⟩ => ⟨⟨y, List.mem_cons_of_mem _ y1, y2⟩, q⟩, fun x hx hr p hp hp2 hp3 => ?_⟩
      rcases List.mem_cons.1 hx with rfl | hx
      · exact .inl (hno hr p hp hp3)
      · exact k4 x hx hr p hp hp2 hp3
    unfold spliceE at h
    split at h
    · rename_i hr
      exact skip (fun q => by rw [hr] at q; simp at q) h
    · rename_i hr
      split at h
      · rename_i B i m j n hB
        split at h
        · rename_i hne
          refine skip (fun _ p hp hpb => ?_) h
          rw [hB] at hp
          simp at hp
          subst hp
          simp only [Pl.blk] at hpb
          subst hpb
          exfalso
          rw [Blk.beq_self hbk] at hne
          cases hne
        · rename_i hBb
          have hBb := Blk.beq_eq hBb
          subst hBb
          split at h
          · rename_i b0 vs hx
            obtain ⟨q1, q2⟩ := getE_mem hx
            simp only at q2
            subst q2
            split at h
            · rename_i hn hn1
              have hn := Nat.eq_of_beq_eq_true hn
              have hn1 := Nat.le_of_ble_eq_true hn1
              have h1 := forceL_out h
              obtain ⟨hlt, h2⟩ := ltVs_out h1
              obtain ⟨off, cs, hc, p1, p2, h3⟩ := putC_out h2
              rw [renVs_length, hn] at p2
              have hold := (hH.holds _ q1).raw.1
              have hloc := hpl e (hm e List.mem_cons_self) _ hB
              simp only [plLoc, hb] at hloc
              simp only [Lies, hloc] at hold
              obtain ⟨arr2, T2, fz2, e1, e2, e3, e4, e5, e6⟩ := hold
              rw [harr] at e1
              simp at e1
              obtain ⟨rfl, rfl, rfl⟩ := e1
              rw [own_size e2] at e4
              have hcell : ∀ x (hx : x < vs.length), ∃ r, arr[z.1 + ((i.getD 0).toNat * m + j) + x]? = some r ∧ VRel ρ' ((renVs g vs).getD x .undef) r := by
                intro x hx'
                have e7 := renVs_rel (g := g) (ρ' := ρ') (fun b _ q => hg b q) e6 e5
                obtain ⟨r, r1, r2⟩ := e7.nth x (by rw [renVs_length]; exact hx')
                refine ⟨r, ?_, by rw [List.getD_eq_getElem?_getD, List.getElem?_eq_getElem (by rw [renVs_length]; exact hx'), Option.getD_some]; exact r2⟩
                simp only [own, List.getElem?_take, List.getElem?_drop] at r1
                rw [if_pos hx', if_pos (by omega), Array.getElem?_toList] at r1
                exact r1
              obtain ⟨hf1, hf2⟩ := hf off cs hc
              generalize hP : (i.getD 0).toNat * m + j = P at *
              have hlen' : (putL cs (P - off) (renVs g vs)).length = cs.length := by
                simp only [putL, List.length_append, List.length_take, List.length_drop, renVs_length]; omega
              have hf' : Fresh ρ' N' arr z (Stale f B t) (setCel c (putL cs (P - off) (renVs g vs))) := by
                intro off' cs' hc'
                rw [celOf_set hc] at hc'
                simp only [Option.some.injEq, Prod.mk.injEq] at hc'
                obtain ⟨rfl, rfl⟩ := hc'
                refine ⟨lts_append (lts_take _ hf1) (lts_append hlt (lts_drop _ hf1)), fun q hq hD => ?_⟩
                by_cases hin : P - off ≤ q ∧ q < P - off + n
                · obtain ⟨r, r1, r2⟩ := hcell (q - (P - off)) (by omega)
                  refine ⟨r, by rw [← r1]; congr 1; omega, ?_⟩
                  have : (putL cs (P - off) (renVs g vs))[q] = (renVs g vs).getD (q - (P - off)) .undef := by
                    rw [List.getD_eq_getElem?_getD, List.getElem?_eq_getElem (by rw [renVs_length]; omega), Option.getD_some]
                    simp only [putL]
                    rw [List.getElem_append_right (by simp; omega), List.getElem_append_left (by simp [renVs_length]; omega)]
                    congr 1; simp; omega
                  rw [this]; exact r2
                · obtain ⟨r, r1, r2⟩ := hf2 q (by omega) (by
                    rintro ⟨x, hx, hr', i', m', j', n', s1, s2, s3⟩
                    rcases List.mem_cons.1 hx with rfl | hx
                    · rw [hB] at s1
                      simp only [Option.some.injEq, Pl.view.injEq] at s1
                      obtain ⟨_, rfl, rfl, rfl, rfl⟩ := s1
                      rw [hP] at s2 s3
                      omega
                    · exact hD ⟨x, hx, hr', i', m', j', n', s1, s2, s3⟩)
                  refine ⟨r, r1, ?_⟩
                  have : (putL cs (P - off) (renVs g vs))[q] = cs[q]'(by omega) := by
                    simp only [putL]
                    rcases Nat.lt_or_ge q (P - off) with hq' | hq'
                    · rw [List.getElem_append_left (by simp; omega), List.getElem_take]
                    · rw [List.getElem_append_right (by simp; omega), List.getElem_append_right (by simp [renVs_length]; omega), List.getElem_drop]
                      congr 1; simp [renVs_length]; omega
                  rw [this]; exact r2
              obtain ⟨c', k1, k2, k3, k4⟩ := spliceE_out hH hg hpl hbk hb harr hm' hf' h3
              refine ⟨c', k1, k2, .inr ?_, fun x hx hr' p hp hp2 hp3 => ?_⟩
              · refine ⟨⟨e, List.mem_cons_self, hr, _, hB, rfl, fun B q => by cases q⟩, ?_⟩
                rcases k3 with rfl | ⟨_, off', cs1, cs2, s1, s2, s3⟩
                · exact ⟨off, cs, _, hc, hlen', rfl⟩
                · rw [celOf_set hc] at s1
                  simp only [Option.some.injEq, Prod.mk.injEq] at s1
                  obtain ⟨rfl, rfl⟩ := s1
                  exact ⟨off, cs, cs2, hc, by omega, by rw [s3, setCel_set]⟩
              · rcases List.mem_cons.1 hx with rfl | hx
                · rw [hB] at hp
                  simp at hp
                  subst hp
                  exact .inr ⟨_, q1, rfl, rfl, off, cs, i, m, j, n, hc, rfl, by rw [hP]; exact p1, by rw [hP]; exact p2⟩
                · rcases k4 x hx hr' p hp hp2 hp3 with q | ⟨y, y1, y2, y3, off', cs', i', m', j', n', s1, s2, s3, s4⟩
                  · exact .inl q
                  · rw [celOf_set hc] at s1
                    simp only [Option.some.injEq, Prod.mk.injEq] at s1
                    obtain ⟨rfl, rfl⟩ := s1
                    exact .inr ⟨y, y1, y2, y3, off, cs, i', m', j', n', hc, s2, s3, by omega⟩
            · exact h.elim
          · exact h.elim
      · rename_i B i0 m0 hB
        split at h
        · rename_i hne
          refine skip (fun _ p hp hpb => ?_) h
          rw [hB] at hp
          simp at hp
          subst hp
          simp only [Pl.blk] at hpb
          subst hpb
          exfalso
          rw [Blk.beq_self hbk] at hne
          cases hne
        · exact h.elim
      · rename_i hno1 hno2
        refine skip (fun _ p hp hpb => ?_) h
        cases p with
        | whole B => exact ⟨B, rfl⟩
        | view B i m j n => exact absurd hp (hno1 B i m j n)
        | trim B i m => exact absurd hp (hno2 B i m)
theorem spliceE_none {H' : Heap} (hH : HRel S ρ0 H' w') {l0 : List Ent} (hpl : ∀ e ∈ l0, ∀ p, renB f e.b = some p → ρ0.loc e.b = plLoc ρ.loc p) {b : Blk} (hbk : b.isKey) (hb : ρ.loc b = none) :
    ∀ {t : List Ent} {c : Cont} {K : Cont → Prop}, (∀ e ∈ t, e ∈ l0) → spliceE f g H'.ents N' b t c K → K c ∧ ∀ e ∈ t, e.rw = true → ∀ p, renB f e.b = some p → p.blk = b → ∃ B, p = .whole B
  | [], c, K, _, h => ⟨h, by simp⟩
  | e :: t, c, K, hm, h => by
    have hm' : ∀ x ∈ t, x ∈ l0 := fun x hx => hm x (List.mem_cons_of_mem _ hx)
    have skip : (e.rw = true → ∀ p, renB f e.b = some p → p.blk = b → ∃ B, p = .whole B) → spliceE f g H'.ents N' b t c K → K c ∧ ∀ x ∈ e :: t, x.rw = true → ∀ p, renB f x.b = some p → p.blk = b → ∃ B, p = .whole B := by
      intro hno h
      obtain ⟨k1, k2⟩ := spliceE_none hH hpl hbk hb hm' h
      refine ⟨k1, fun x hx => ?_⟩
      rcases List.mem_cons.1 hx with rfl | hx
      · exact hno
      · exact k2 x hx
    unfold spliceE at h
    split at h
    · rename_i hr
      exact skip (fun q => by rw [hr] at q; simp at q) h
    · split at h
      · rename_i B i m j n hB
        split at h
        · rename_i hne
          refine skip (fun _ p hp hpb => ?_) h
          rw [hB] at hp
          simp at hp
          subst hp
          simp only [Pl.blk] at hpb
          subst hpb
          exfalso
          rw [Blk.beq_self hbk] at hne
          cases hne
        · rename_i hBb
          have hBb := Blk.beq_eq hBb
          subst hBb
          split at h
          · rename_i b0 vs hx
            obtain ⟨q1, q2⟩ := getE_mem hx
            simp only at q2
            subst q2
            split at h
            · rename_i hn hn1
              have hn := Nat.eq_of_beq_eq_true hn
              have hn1 := Nat.le_of_ble_eq_true hn1
              have hold := (hH.holds _ q1).raw.1
              have hloc := hpl e (hm e List.mem_cons_self) _ hB
              simp only [plLoc, hb] at hloc
              simp only [Lies, hloc] at hold
              have hold : vs = [] := hold
              subst hold
              simp at hn
              omega
            · exact h.elim
          · exact h.elim
      · rename_i B i0 m0 hB
        split at h
        · rename_i hne
          refine skip (fun _ p hp hpb => ?_) h
          rw [hB] at hp
          simp at hp
          subst hp
          simp only [Pl.blk] at hpb
          subst hpb
          exfalso
          rw [Blk.beq_self hbk] at hne
          cases hne
        · exact h.elim
      · rename_i hno1 hno2
        refine skip (fun _ p hp hpb => ?_) h
        cases p with
        | whole B => exact ⟨B, rfl⟩
        | view B i m j n => exact absurd hp (hno1 B i m j n)
        | trim B i m => exact absurd hp (hno2 B i m)
theorem handed_not {b : Blk} (hbk : b.isKey) : ∀ {l0 : List Ent}, handed f b l0 = false → ∀ e ∈ l0, e.rw = true → renB f e.b ≠ some (.whole b)
  | [], _, e, he, _ => by simp at he
  | x :: r, h, e, he, hr => by
    unfold handed at h
    rcases List.mem_cons.1 he with rfl | he1
    · rw [hr] at h
      simp only at h
      intro q
      rw [q] at h
      simp only [Blk.beq_self hbk] at h
      simp at h
    · split at h
      · exact handed_not hbk h e he1 hr
      · split at h
        · split at h
          · simp at h
          · exact handed_not hbk h e he1 hr
        · exact handed_not hbk h e he1 hr
def FrameFit (S : Seat) (ρ : Lay) (ρ' : Loc) (H H' : Heap) (f : Nat → Option Pl) (l0 : List Ent) (N' : Nat) (w' : World) (e' : Ent) : Prop :=
  ∃ e ∈ H.ents, e'.b = e.b ∧ e'.rw = e.rw ∧ handed f e.b l0 = false ∧ HoldsE ρ' N' w' e'.rw e'.c e'.b (ρ.foot e.b) ∧ ContOk S e'.c ∧
    ∀ y ∈ l0, y.rw = true → ∀ p, renB f y.b = some p → p.blk = e.b → ∃ x ∈ H'.ents, x.b = y.b ∧ x.rw = true ∧ ∀ B i m, p ≠ .trim B i m
theorem frameK_out {H H' : Heap} {l0 : List Ent} (hH : HRel S ρ H w) (hH' : HRel S ρ0 H' w') (hfit : ∀ e ∈ l0, (e.b.lt k ∧ e.b.isKey) ∧ EntFit S f ρ ρh H w k e) (hkept : Kept (fun j c => ¬ RwF (pullL f ρ ρh) ⟨l0, k⟩ j c) w w')
    (hg : ∀ b : Blk, okB true b = true → ρ0.loc b = (renB g b).bind (plLoc ρ')) (hpl : ∀ e ∈ l0, ∀ p, renB f e.b = some p → ρ0.loc e.b = plLoc ρ.loc p) (ha : Agree H.next ρ ρ') (hN : H.next ≤ N') :
    ∀ {l : List Ent} {K : List Ent → Prop}, (∀ e ∈ l, e ∈ H.ents) → frameK f g l0 H'.ents N' l K → ∃ r, K r ∧ ∀ e ∈ r, FrameFit S ρ ρ' H H' f l0 N' w' e
  | [], K, _, h => ⟨[], h, by simp⟩
  | x :: r, K, hm, h => by
    have hm' : ∀ y ∈ r, y ∈ H.ents := fun y hy => hm y (List.mem_cons_of_mem _ hy)
    unfold frameK at h
    split at h
    · exact frameK_out hH hH' hfit hkept hg hpl ha hN hm' h
    · rename_i hh
      obtain ⟨b, rw, c⟩ := x
      simp only at hh h
      have hx := hm _ List.mem_cons_self
      obtain ⟨hlt, hbk⟩ := hH.key _ hx
      simp only at hlt hbk
      have hold := hH.holds _ hx
      have hok := hH.enc _ hx
      simp only at hold hok
      have hturn : ∀ j c, ρ.foot b j c → RwF (pullL f ρ ρh) ⟨l0, k⟩ j c → ∃ y ∈ l0, y.rw = true ∧ rw = true ∧ ∃ p, renB f y.b = some p ∧ p.blk = b ∧ footP ρ p j c ∧ plB p = plB (.whole b) := by
        rintro j c h1 ⟨y, hy, hyr, h2⟩
        obtain ⟨_, _, h3⟩ := (hfit y hy).2
        rcases h3 with h3 | ⟨p, z, q1, q2, q3, q4, q5⟩
        · simp only [pullL, h3] at h2
        · simp only [pullL, q1] at h2
          obtain ⟨q6, q7⟩ := q4 hyr
          by_cases hz : z.b = b
          · have hzx := same_key hH.keys q2 hx hz
            have hpb : p.blk = b := by
              have : plB p = p.blk := by cases p <;> exact keyB_key q7
              rw [← this, ← q3, hz]
            refine ⟨y, hy, hyr, by rw [hzx] at q6; exact q6, p, q1, hpb, h2, ?_⟩
            rw [← q3, hz]
            simp only [plB]
            exact (keyB_key hbk).symm
          · exact (hH.sep z q2 _ hx (.inl q6) hz j c (q5 j c h2) h1).elim
      cases hb : ρ.loc b with
      | none =>
        obtain ⟨hK, hno⟩ := spliceE_none hH' hpl hbk hb (fun _ q => q) h
        obtain ⟨r', k1, k2⟩ := frameK_out hH hH' hfit hkept hg hpl ha hN hm' hK
        refine ⟨_, k1, fun e he => ?_⟩
        rcases List.mem_cons.1 he with rfl | he
        · refine ⟨_, hx, rfl, rfl, hh, hold.turn hok hlt ha hN (hkept.cells.mono fun j c q p => ?_), hok, fun y hy hyr p hp hpb => ?_⟩
          · obtain ⟨y, hy, hyr, _, p, h1, h2, _⟩ := hturn j c q p
            obtain ⟨B, rfl⟩ := hno y hy hyr p h1 h2
            exact handed_not hbk hh y hy hyr (by rw [h1]; simp only [Pl.blk] at h2; rw [h2])
          · obtain ⟨B, rfl⟩ := hno y hy hyr p hp hpb
            exact absurd (by rw [hp]; simp only [Pl.blk] at hpb; rw [hpb]) (handed_not hbk hh y hy hyr)
        · exact k2 e he
      | some kz =>
        obtain ⟨kb, z⟩ := kz
        obtain ⟨arr, T, fz, g1, g2, g3⟩ := hold.block hb
        obtain ⟨arr', fz', g4, g5, g6, g7⟩ := hkept.cells kb arr T fz g1
        have hfresh : Fresh ρ' N' arr' z (Stale f b l0) c := by
          intro off cs hc
          have hcells : AV.lts H.next cs ∧ ∀ t (h : t < cs.length), ∃ r, arr[z.1 + off + t]? = some r ∧ VRel ρ.loc cs[t] r ∧ inZ z (z.1 + off + t) := by
            cases c with
            | arr E xs => simp [celOf] at hc
            | raw ws =>
              simp only [celOf, Option.some.injEq, Prod.mk.injEq] at hc
              obtain ⟨rfl, rfl⟩ := hc
              have hl := hold.raw.1
              simp only [Lies, hb] at hl
              obtain ⟨arr2, T2, fz2, e1, e2, e3, e4, e5, e6⟩ := hl
              rw [g1] at e1
              simp at e1
              obtain ⟨rfl, rfl, rfl⟩ := e1
              rw [own_size e2] at e4
              refine ⟨e6, fun t ht => ?_⟩
              obtain ⟨r, r1, r2⟩ := e5.nth t ht
              simp only [own, List.getElem?_take, List.getElem?_drop] at r1
              rw [if_pos ht, if_pos (by omega), Array.getElem?_toList] at r1
              exact ⟨r, by simpa using r1, r2, by simp only [inZ]; omega⟩
            | nest m d g' s f' xs o =>
              cases o with
              | none => simp [celOf] at hc
              | some p =>
                obtain ⟨i0, cs0⟩ := p
                simp only [celOf, Option.some.injEq, Prod.mk.injEq] at hc
                obtain ⟨rfl, rfl⟩ := hc
                cases rw with
                | false => simp [HoldsE] at hold
                | true =>
                  obtain ⟨⟨ρ1, o1, o2⟩, p1, p2, p3, p4, k', z', arr2, T2, fz2, p5, p6, p7⟩ := hold
                  simp only at p1 p2 p3 p4 p5 p6 p7
                  rw [hb] at p5
                  simp only [Option.some.injEq, Prod.mk.injEq] at p5
                  obtain ⟨rfl, rfl⟩ := p5
                  rw [g1] at p6
                  simp at p6
                  obtain ⟨rfl, rfl, rfl⟩ := p6
                  have hb1 : ρ1 b = some (kb, z) := by rw [o1 b (not_under_self b)]; exact hb
                  have hlie := o2.1.1
                  simp only [Lies, hb1] at hlie
                  obtain ⟨arr3, T3, fz3, e1, e2, e3, e4, _⟩ := hlie
                  rw [g1] at e1
                  simp at e1
                  obtain ⟨rfl, rfl, rfl⟩ := e1
                  rw [own_size e2] at e4
                  have hfit' : i0.toNat * m + m ≤ z.2 := by
                    have : (i0.toNat + 1) * m ≤ totalN (some (i0, cs0)) xs.length * m := Nat.mul_le_mul_right _ (by simp only [totalN]; omega)
                    rw [Nat.add_mul, Nat.one_mul] at this; omega
                  refine ⟨p4, fun t ht => ?_⟩
                  obtain ⟨r, r1, r2⟩ := p7.nth t ht
                  simp only [own, List.getElem?_take, List.getElem?_drop] at r1
                  rw [if_pos (by omega), if_pos (by omega), Array.getElem?_toList] at r1
                  exact ⟨r, by rw [← r1]; congr 1; omega, r2, by simp only [inZ]; omega⟩
          obtain ⟨h1, h2⟩ := hcells
          refine ⟨h1.mono hN, fun t ht hst => ?_⟩
          obtain ⟨r, r1, r2, r3⟩ := h2 t ht
          have hfoot : ρ.foot b kb (z.1 + off + t) := hold.reg.2 kb _ ⟨z, hb, r3⟩
          have hnot : ¬ RwF (pullL f ρ ρh) ⟨l0, k⟩ kb (z.1 + off + t) := by
            intro q
            obtain ⟨y, hy, hyr, _, p, q1, q2, q3, _⟩ := hturn _ _ hfoot q
            cases p with
            | whole B => simp only [Pl.blk] at q2; subst q2; exact handed_not hbk hh y hy hyr q1
            | trim B i m =>
              simp only [Pl.blk] at q2; subst q2
              exact (show ∀ {t : List Ent} {c : Cont} {K : Cont → Prop}, y ∈ t → spliceE f g H'.ents N' B t c K → False from by
                intro t
                induction t with
                | nil => intro c K hy; simp at hy
                | cons a t ih =>
                  intro c K hy h
                  unfold spliceE at h
                  rcases List.mem_cons.1 hy with rfl | hy
                  · rw [hyr] at h
                    simp only [q1, Blk.beq_self hbk] at h
                  · split at h
                    · exact ih hy h
                    · split at h
                      · split at h
                        · exact ih hy h
                        · split at h
                          · split at h
                            · have h1 := forceL_out h
                              obtain ⟨_, h2⟩ := ltVs_out h1
                              obtain ⟨_, _, _, _, _, h3⟩ := putC_out h2
                              exact ih hy h3
                            · exact h
                          · exact h
                      · split at h
                        · exact ih hy h
                        · exact h
                      · exact ih hy h) hy h
            | view B i m j n =>
              simp only [Pl.blk] at q2; subst q2
              obtain ⟨z', e1, e2, e3⟩ := q3
              simp only [plLoc, hb, Option.some.injEq, Prod.mk.injEq] at e1
              obtain ⟨_, rfl⟩ := e1
              simp only at e2 e3
              exact hst ⟨y, hy, hyr, i, m, j, n, q1, by omega, by omega⟩
          exact ⟨r, by rw [← r1]; exact g7 _ hnot, VRel.agree ha (lts_get h1 (List.getElem?_eq_getElem ht)) r2⟩
        obtain ⟨c', hK, k2, k3, k4⟩ := spliceE_out hH' hg hpl hbk hb g4 (fun _ q => q) hfresh h
        obtain ⟨r', k5, k6⟩ := frameK_out hH hH' hfit hkept hg hpl ha hN hm' hK
        refine ⟨_, k5, fun e he => ?_⟩
        rcases List.mem_cons.1 he with rfl | he
        rotate_left
        · exact k6 e he
        have hview : ∀ y ∈ l0, y.rw = true → ∀ p, renB f y.b = some p → p.blk = b → ∃ x ∈ H'.ents, x.b = y.b ∧ x.rw = true ∧ ∃ off cs i m j n, celOf c = some (off, cs) ∧ p = .view b i m j n ∧ off ≤ (i.getD 0).toNat * m + j ∧ (i.getD 0).toNat * m + j + n ≤ off + cs.length := by
          intro y hy hyr p hp hpb
          have hpl2 : plB p = plB (.whole b) := by
            obtain ⟨_, _, h3⟩ := (hfit y hy).2
            rcases h3 with h3 | ⟨p', z', q1, q2, q3, q4, q5⟩
            · rw [h3] at hp; simp at hp
            · rw [q1] at hp
              simp at hp
              subst hp
              have : plB p' = p'.blk := by have := (q4 hyr).2; cases p' <;> exact keyB_key this
              rw [this, hpb]; simp only [plB]; exact (keyB_key hbk).symm
          rcases k4 y hy hyr p hp hpl2 hpb with ⟨B, rfl⟩ | q
          · exact absurd (by rw [hp]; simp only [Pl.blk] at hpb; rw [hpb]) (handed_not hbk hh y hy hyr)
          · exact q
        have hok' : ContOk S c' := by
          rcases k3 with rfl | ⟨_, _, _, _, _, _, rfl⟩
          · exact hok
          · exact contOk_set hok
        refine ⟨_, hx, rfl, rfl, hh, ?_, hok', fun y hy hyr p hp hpb => ?_⟩
        · simp only
          have still : (∀ y ∈ l0, y.rw = true → rw = true → ∀ p, renB f y.b = some p → p.blk = b → False) → c' = c → HoldsE ρ' N' w' rw c' b (ρ.foot b) := by
            rintro hno rfl
            refine hold.turn hok hlt ha hN (hkept.cells.mono fun j x q p => ?_)
            obtain ⟨y, hy, hyr, hrw, p, h1, h2, _⟩ := hturn j x q p
            exact hno y hy hyr hrw p h1 h2
          cases rw with
          | false =>
            refine still (fun _ _ _ q => by cases q) ?_
            rcases k3 with q | ⟨⟨y, hy, hyr, p, hp, hpb, _⟩, _⟩
            · exact q
            · exfalso
              obtain ⟨_, _, h3⟩ := (hfit y hy).2
              rcases h3 with h3 | ⟨p', z', q1, q2, q3, q4, q5⟩
              · rw [h3] at hp; simp at hp
              · rw [q1] at hp
                simp at hp
                subst hp
                obtain ⟨q6, q7⟩ := q4 hyr
                have : plB p' = p'.blk := by cases p' <;> exact keyB_key q7
                have hzx := same_key hH.keys q2 hx (by rw [q3, this, hpb])
                rw [hzx] at q6
                cases q6
          | true =>
            cases hc : celOf c with
            | none =>
              refine still (fun y hy hyr _ p hp hpb => ?_) ?_
              · obtain ⟨_, _, _, _, _, _, _, _, _, _, q, _⟩ := hview y hy hyr p hp hpb
                rw [hc] at q; simp at q
              · rcases k3 with q | ⟨_, _, _, _, q, _⟩
                · exact q
                · rw [hc] at q; simp at q
            | some oc =>
              obtain ⟨off, cs⟩ := oc
              obtain ⟨cs', hl, rfl⟩ : ∃ cs', cs'.length = cs.length ∧ c' = setCel c cs' := by
                rcases k3 with rfl | ⟨_, off', cs1, cs2, s1, s2, s3⟩
                · exact ⟨cs, rfl, (setCel_self hc).symm⟩
                · rw [hc] at s1
                  simp only [Option.some.injEq, Prod.mk.injEq] at s1
                  obtain ⟨rfl, rfl⟩ := s1
                  exact ⟨cs2, s2, s3⟩
              obtain ⟨f1, f2⟩ := k2 off cs' (celOf_set hc)
              refine hold.recell hc hl hok hlt ha hN (hkept.cells.mono fun j x q p => ?_) (fun k2 z2 arr2 T2 fz2 e1 e2 t ht => ?_) f1
              · obtain ⟨y, hy, hyr, _, p, h1, h2, h3, _⟩ := hturn j x q.1 p
                obtain ⟨_, _, _, _, off', cs1, i, m, j', n, r1, rfl, r2, r3⟩ := hview y hy hyr p h1 h2
                rw [hc] at r1
                simp only [Option.some.injEq, Prod.mk.injEq] at r1
                obtain ⟨rfl, rfl⟩ := r1
                obtain ⟨z', e1, e2, e3⟩ := h3
                simp only [plLoc, hb, Option.some.injEq, Prod.mk.injEq] at e1
                obtain ⟨rfl, rfl⟩ := e1
                simp only at e2 e3
                exact q.2 ⟨z, hb, by omega, by omega⟩
              · rw [hb] at e1
                simp only [Option.some.injEq, Prod.mk.injEq] at e1
                obtain ⟨rfl, rfl⟩ := e1
                rw [g4] at e2
                simp at e2
                obtain ⟨rfl, rfl, rfl⟩ := e2
                exact f2 t ht (fun q => q)
        · obtain ⟨x, x1, x2, x3, off, cs, i, m, j, n, _, rfl, _⟩ := hview y hy hyr p hp hpb
          exact ⟨x, x1, x2, x3, fun _ _ _ q => by cases q⟩
end
end Go.Vm

namespace Go.Vm
open Go.RowKit
theorem distinctOne_out {b : Blk} (hk : b.isKey) : ∀ {l : List Ent} {K : Prop}, distinctOne b l K → (∀ e ∈ l, b ≠ e.b) ∧ K
  | [], _, h => ⟨by simp, h⟩
  | x :: r, _, h => by
    unfold distinctOne at h
    split at h
    · exact h.elim
    · rename_i hb
      obtain ⟨h1, h2⟩ := distinctOne_out hk h
      refine ⟨fun e he => ?_, h2⟩
      rcases List.mem_cons.1 he with rfl | he
      · intro q
        rw [← q, Blk.beq_self hk] at hb; simp at hb
      · exact h1 e he
theorem distinctK_out : ∀ {l : List Ent} {K : Prop}, (∀ e ∈ l, e.b.isKey) → distinctK l K → l.Pairwise (fun e e' => e.b ≠ e'.b) ∧ K
  | [], _, _, h => ⟨.nil, h⟩
  | x :: r, _, hk, h => by
    unfold distinctK at h
    obtain ⟨h1, h⟩ := distinctOne_out (hk x List.mem_cons_self) h
    obtain ⟨h2, h⟩ := distinctK_out (fun e he => hk e (List.mem_cons_of_mem _ he)) h
    exact ⟨List.pairwise_cons.2 ⟨h1, h2⟩, h⟩
section
variable {S : Seat} {ρ ρ0 : Lay} {ρh : Loc} {f : Nat → Option Pl} {H : Heap} {w w' : World} {N k : Nat}
open Classical in
noncomputable def backF (f : Nat → Option Pl) (ρ ρ0 : Lay) (k N : Nat) (l0 : List Ent) (b : Blk) : Foot :=
  if h : ∃ x : Blk, renB (outR f k N) x = some (.whole b) ∧ ((∃ i, x = .loc i ∧ k ≤ i) ∨ ∃ y ∈ l0, y.b = x ∧ y.rw = true) then ρ0.foot (Classical.choose h) else ρ.foot b
theorem CallA.lift (hS : SeatOk S) {fn : Nat} {args0 args : List AV} {l0 : List Ent} {K0 K : AV → Heap → Prop} (hc : CallA S fn args0 ⟨l0, k⟩ K0)
    (h : liftA S args0 l0 k args H fun m => ∀ v H', K0 v H' → backA (lookR m) k l0 H v H' K) : CallA S fn args H K := by
  unfold CallA at hc ⊢
  intro ρ w rs hH hrs hlt
  obtain ⟨ρh, hhid⟩ := hH.hidden
  unfold liftA at h
  obtain ⟨m0, h⟩ := learnVs_out h
  obtain ⟨m, h⟩ := learnH_out h
  obtain ⟨ha, h⟩ := fitVs_out (ρ := ρ) (ρh := ρh) (fun q => by cases q) h
  obtain ⟨hal, h⟩ := ltVs_out h
  obtain ⟨he, h⟩ := fitEnts_out hS hH hhid h
  obtain ⟨hp, h⟩ := pairsK_out (ρ := ρ) (fun e q => (he e q).1.2) h
  obtain ⟨hm, h⟩ := ltRen_out h
  have hH0 : HRel S (pullL (lookR m) ρ ρh) ⟨l0, k⟩ w := hH.pull he hp
  have hrwH : ∀ j c, RwF (pullL (lookR m) ρ ρh) ⟨l0, k⟩ j c → RwF ρ H j c := by
    rintro j c ⟨e, q1, q2, q3⟩
    obtain ⟨_, _, g3⟩ := (he e q1).2
    rcases g3 with g3 | ⟨p, x, p1, p2, p3, p4, p5⟩
    · simp only [pullL, g3] at q3
    · simp only [pullL, p1] at q3
      exact ⟨x, p2, (p4 q2).1, p5 j c q3⟩
  refine (hc (pullL (lookR m) ρ ρh) w rs hH0 (ha _ hrs) hal).mono ?_
  rintro e' w' ⟨v, r, H', ρ0, rfl, hK, hv, hvl, haf⟩
  have h := h v H' hK
  obtain ⟨l, N⟩ := H
  obtain ⟨l', k'⟩ := H'
  simp only at hm
  have hN : N ≤ N + (k' - k) := Nat.le_add_right _ _
  unfold backA at h
  have h := natK_out h
  have h := forceV_out (K := fun v => ltV (N + (k' - k)) v (newEnts (outR (lookR m) k N) l0 k (N + (k' - k)) l' fun n => frameK (lookR m) (outR (lookR m) k N) l0 l' (N + (k' - k)) l fun r => match n ++ r with | l => distinctK l (K v ⟨l, N + (k' - k)⟩))) h
  obtain ⟨hv2, h⟩ := ltV_out h
  have hag : Agree k (pull (lookR m) ρ ρh) ρ0.loc := haf.agree
  have hg : ∀ b : Blk, okB true b = true → ρ0.loc b = (renB (outR (lookR m) k N) b).bind (plLoc (backL ρ ρ0.loc k N)) := fun b hb => backL_out hag hm hb
  have hagr : Agree N ρ.loc (backL ρ ρ0.loc k N) := backL_agree
  have h00 : Agree 0 ρ.loc ρh := hhid.zero hH
  have hz : Agree 0 ρ0.loc (backL ρ ρ0.loc k N) := fun b hb => by
    have hr : b.root = none := by cases h : b.root with | none => rfl | some n => exact absurd (hb n h) (by omega)
    rw [hagr b (hb.mono (Nat.zero_le _)), hag b (hb.mono (Nat.zero_le _)), pull_agree0 h00 b hb]
  have hpl : ∀ e ∈ l0, ∀ p, renB (lookR m) e.b = some p → ρ0.loc e.b = plLoc ρ.loc p := by
    intro e q p hp'
    obtain ⟨q1, q2⟩ := (he e q).1
    rw [hag e.b q1]
    cases hb : e.b with
    | loc n => rw [hb] at hp'; have hp' : lookR m n = some p := hp'; simp only [pull, hp']
    | glob g => rw [hb] at hp'; simp only [renB, Option.some.injEq] at hp'; subst hp'; rfl
    | sub _ _ _ => rw [hb] at q2; exact q2.elim
  have hout : ∀ {x : Blk}, x.lt k → renB (outR (lookR m) k N) x = renB (lookR m) x := by
    intro x hx
    induction x with
    | loc i =>
      have := hx i rfl
      simp only [renB, outR]
      rw [show Nat.ble k i = false from by rw [Bool.eq_false_iff]; intro q; have := Nat.le_of_ble_eq_true q; omega]
    | glob g => rfl
    | sub c i j ih => simp only [renB, ih hx]
  have hnewB : ∀ {i : Nat}, k ≤ i → renB (outR (lookR m) k N) (.loc i) = some (.whole (.loc (N + (i - k)))) := fun {i} hi => by
    simp only [renB, outR, Nat.ble_eq_true_of_le hi]
  have hwholeRw : ∀ y ∈ l0, y.rw = true → ∀ B, renB (lookR m) y.b = some (.whole B) → B.isKey ∧ ∃ x ∈ l, x.b = B ∧ x.rw = true := by
    intro y hy hyr B hB
    obtain ⟨_, _, g3⟩ := (he y hy).2
    rcases g3 with g3 | ⟨p, x, p1, p2, p3, p4, p5⟩
    · rw [hB] at g3; simp at g3
    · rw [hB] at p1
      simp at p1
      subst p1
      obtain ⟨p6, p7⟩ := p4 hyr
      exact ⟨p7, x, p2, by rw [p3]; exact keyB_key p7, p6⟩
  have huniq : ∀ {x x' B : Blk}, renB (outR (lookR m) k N) x = some (.whole B) → ((∃ i, x = .loc i ∧ k ≤ i) ∨ ∃ y ∈ l0, y.b = x ∧ y.rw = true) → renB (outR (lookR m) k N) x' = some (.whole B) → ((∃ i, x' = .loc i ∧ k ≤ i) ∨ ∃ y ∈ l0, y.b = x' ∧ y.rw = true) → x = x' := by
    have key : ∀ {i : Nat} {y : Ent} {B : Blk}, k ≤ i → renB (outR (lookR m) k N) (.loc i) = some (.whole B) → y ∈ l0 → y.rw = true → renB (outR (lookR m) k N) y.b = some (.whole B) → False := by
      intro i y B hi h1 hy hyr h2
      rw [hnewB hi] at h1
      rw [hout (he y hy).1.1] at h2
      obtain ⟨_, x, q1, q2, q3⟩ := hwholeRw y hy hyr B h2
      simp at h1
      have := (hH.key x q1).1 (N + (i - k)) (by rw [q2, ← h1]; rfl)
      simp only at this
      omega
    intro x x' B h1 h2 h3 h4
    rcases h2 with ⟨i, rfl, hi⟩ | ⟨y, hy, rfl, hyr⟩ <;> rcases h4 with ⟨i', rfl, hi'⟩ | ⟨y', hy', rfl, hyr'⟩
    · rw [hnewB hi] at h1
      rw [hnewB hi'] at h3
      simp at h1 h3
      rw [← h3] at h1
      simp at h1
      congr 1; omega
    · exact (key hi h1 hy' hyr' h3).elim
    · exact (key hi' h3 hy hyr h1).elim
    · rw [hout (he y hy).1.1] at h1
      rw [hout (he y' hy').1.1] at h3
      by_cases hne : y.b = y'.b
      · exact hne
      · exfalso
        have hap := pairwise_sep hp y hy y' hy' hne (.inl hyr) _ _ h1 h3
        rcases hap with q | q
        · exact q rfl
        · exact q.1 B rfl
  have hfootx : ∀ {x B : Blk}, renB (outR (lookR m) k N) x = some (.whole B) → ((∃ i, x = .loc i ∧ k ≤ i) ∨ ∃ y ∈ l0, y.b = x ∧ y.rw = true) → backF (lookR m) ρ ρ0 k N l0 B = ρ0.foot x := by
    intro x B h1 h2
    have hex : ∃ x : Blk, renB (outR (lookR m) k N) x = some (.whole B) ∧ ((∃ i, x = .loc i ∧ k ≤ i) ∨ ∃ y ∈ l0, y.b = x ∧ y.rw = true) := ⟨x, h1, h2⟩
    unfold backF
    rw [dif_pos hex]
    have hs := Classical.choose_spec hex
    rw [huniq hs.1 hs.2 h1 h2]
  have hgr : ∀ b B, b.root ≠ none → renB (outR (lookR m) k N) b = some (.whole B) → (∃ i, b = .loc i ∧ k ≤ i) ∨ (∃ y ∈ l0, y.b = b ∧ y.rw = true) → B.root ≠ none := by
    rintro b B _ hB (⟨i, rfl, hi⟩ | ⟨y, hy, rfl, hyr⟩)
    · rw [hnewB hi] at hB
      simp at hB
      rw [← hB]; simp [Blk.root]
    · rw [hout (he y hy).1.1] at hB
      obtain ⟨_, x, q1, q2, q3⟩ := hwholeRw y hy hyr B hB
      rw [← q2]; exact hH.root x q1 q3
  obtain ⟨n, h, hn⟩ := newEnts_out (ρ' := backL ρ ρ0.loc k N) haf.heap hg hz hgr (fun _ q => q) h
  obtain ⟨fr, h, hfr⟩ := frameK_out (H := ⟨l, N⟩) (H' := ⟨l', k'⟩) hH haf.heap he haf.frame hg hpl hagr hN (fun _ q => q) h
  have hkey : ∀ e ∈ n ++ fr, e.b.lt (N + (k' - k)) ∧ e.b.isKey := by
    intro e q
    rcases List.mem_append.1 q with q | q
    · exact (hn e q).2.1
    · obtain ⟨x, x1, x2, _⟩ := hfr e q
      rw [x2]
      exact ⟨(hH.key x x1).1.mono hN, (hH.key x x1).2⟩
  obtain ⟨hdist, hKf⟩ := distinctK_out (fun e q => (hkey e q).2) h
  have hnf : ∀ e ∈ n, ∃ x ∈ l', x.rw = true ∧ backF (lookR m) ρ ρ0 k N l0 e.b = ρ0.foot x.b ∧ renB (outR (lookR m) k N) x.b = some (.whole e.b) ∧ ((∃ i, x.b = .loc i ∧ k ≤ i) ∨ ∃ y ∈ l0, y.b = x.b ∧ y.rw = true) := by
    intro e q
    obtain ⟨_, _, _, x, x1, x2, x3, x4, _⟩ := hn e q
    exact ⟨x, x1, x2, hfootx x3 x4, x3, x4⟩
  have hff : ∀ e ∈ fr, backF (lookR m) ρ ρ0 k N l0 e.b = ρ.foot e.b := by
    intro e q
    obtain ⟨x, x1, x2, x3, x4, _⟩ := hfr e q
    unfold backF
    rw [dif_neg]
    rintro ⟨y, y1, (⟨i, rfl, hi⟩ | ⟨z, hz', rfl, hzr⟩)⟩
    · rw [hnewB hi] at y1
      simp at y1
      have := (hH.key x x1).1 (N + (i - k)) (by rw [← x2, ← y1]; rfl)
      simp only at this
      omega
    · rw [hout (he z hz').1.1, x2] at y1
      exact handed_not (hH.key x x1).2 x4 z hz' hzr y1
  have hnown : ∀ e ∈ n, ∀ j c, backF (lookR m) ρ ρ0 k N l0 e.b j c → w.heap.size ≤ j ∨ RwF (pullL (lookR m) ρ ρh) ⟨l0, k⟩ j c := by
    intro e q j c hf
    obtain ⟨x, x1, x2, x3, _⟩ := hnf e q
    rw [x3] at hf
    exact haf.own j c ⟨x, x1, x2, hf⟩
  have mix : ∀ e ∈ n, ∀ e' ∈ fr, Disj (backF (lookR m) ρ ρ0 k N l0 e.b) (backF (lookR m) ρ ρ0 k N l0 e'.b) := by
    intro e q e' q' j c h1 h2
    have h1' := hnown e q j c h1
    rw [hff e' q'] at h2
    obtain ⟨x, x1, x2, x3, x4, x5, x6, x7⟩ := hfr e' q'
    rw [x2] at h2
    have hlow := hH.low x x1 j c h2
    rcases h1' with p | p
    · omega
    · obtain ⟨y, hy, hyr, hf⟩ := p
      obtain ⟨_, _, g3⟩ := (he y hy).2
      rcases g3 with g3 | ⟨p, z, p1, p2, p3, p4, p5⟩
      · simp only [pullL, g3] at hf
      · simp only [pullL, p1] at hf
        obtain ⟨p6, p7⟩ := p4 hyr
        by_cases hzx : z.b = x.b
        · have hpb : p.blk = x.b := by
            have : plB p = p.blk := by cases p <;> exact keyB_key p7
            rw [← this, ← p3, hzx]
          obtain ⟨u, u1, u2, u3, u4⟩ := x7 y hy hyr p p1 hpb
          obtain ⟨v, v1, v2, v3, v4, v5⟩ := hnf e q
          rw [v3] at h1
          have hne : v.b ≠ u.b := by
            intro hvu
            rcases v5 with ⟨i, hi, hik⟩ | ⟨y2, hy2, hy2b, _⟩
            · have := (he y hy).1.1
              rw [← u2, ← hvu, hi] at this
              have := this i rfl
              omega
            · have hyy : y2.b = y.b := by rw [hy2b, hvu, u2]
              rw [hvu, u2, hout (he y hy).1.1, p1] at v4
              simp at v4
              rw [v4] at p1
              refine handed_not (hH.key x x1).2 x4 y hy hyr ?_
              rw [p1]
              rw [v4] at hpb
              simp only [Pl.blk] at hpb
              rw [hpb]
          have hreg : ρ0.foot u.b j c := by
            cases p with
            | whole B =>
              exact absurd (by rw [p1]; simp only [Pl.blk] at hpb; rw [hpb]) (handed_not (hH.key x x1).2 x4 y hy hyr)
            | trim B i m0 =>
              exact absurd rfl (u4 B i m0)
            | view B i m0 j0 n0 =>
              have hu := (haf.heap.holds u u1).reg.2 j c
              refine hu ?_
              rw [u2, hpl y hy _ p1]
              exact hf
          exact haf.heap.sep v v1 u u1 (.inl v2) hne j c h1 hreg
        · exact hH.sep z p2 x x1 (.inl p6) hzx j c (p5 j c hf) h2
  let ρ2 : Lay := ⟨backL ρ ρ0.loc k N, backF (lookR m) ρ ρ0 k N l0⟩
  refine ⟨_, r, _, ρ2, rfl, hKf, renV_rel (fun b _ hb => hg b hb) hvl hv, hv2, ?_⟩
  refine ⟨hN, hagr, ⟨?_, hkey, ?_, hdist, ?_, ?_, ?_, ?_⟩, haf.size, haf.frame.mono fun j c q p => q (hrwH j c p), ?_, haf.os, haf.tape, haf.output⟩
  · intro e q
    rcases List.mem_append.1 q with q | q
    · obtain ⟨p1, p2, p3, x, x1, x2, x3, x4, x5⟩ := hn e q
      show HoldsE _ _ _ _ _ _ (backF (lookR m) ρ ρ0 k N l0 e.b)
      rw [hfootx x3 x4, p1]
      exact x5
    · obtain ⟨x, x1, x2, x3, x4, x5, x6, x7⟩ := hfr e q
      show HoldsE _ _ _ _ _ _ (backF (lookR m) ρ ρ0 k N l0 e.b)
      rw [hff e q, x2, ← x2]
      rw [x2] at x5 ⊢
      exact x5
  · intro e q e' q' hor hne
    show Disj (backF (lookR m) ρ ρ0 k N l0 e.b) (backF (lookR m) ρ ρ0 k N l0 e'.b)
    rcases List.mem_append.1 q with q | q <;> rcases List.mem_append.1 q' with q' | q'
    · obtain ⟨x, x1, x2, x3, x4, x5⟩ := hnf e q
      obtain ⟨y, y1, y2, y3, y4, y5⟩ := hnf e' q'
      rw [x3, y3]
      refine haf.heap.sep x x1 y y1 (.inl x2) fun hxy => hne ?_
      rw [hxy, y4] at x4
      simp at x4
      exact x4.symm
    · exact mix e q e' q'
    · exact (mix e' q' e q).symm
    · obtain ⟨x, x1, x2, x3, _⟩ := hfr e q
      obtain ⟨y, y1, y2, y3, _⟩ := hfr e' q'
      rw [hff e q, hff e' q', x2, y2]
      exact hH.sep x x1 y y1 (by rw [← x3, ← y3]; exact hor) (by rw [← x2, ← y2]; exact hne)
  · intro g
    obtain ⟨z, hz'⟩ := hH.glob g
    exact ⟨z, hz'⟩
  · intro e q
    rcases List.mem_append.1 q with q | q
    · exact (hn e q).2.2.1
    · obtain ⟨x, x1, x2, x3, x4, x5, x6, x7⟩ := hfr e q
      exact x6
  · intro e q j c hf
    have hf : backF (lookR m) ρ ρ0 k N l0 e.b j c := hf
    rcases List.mem_append.1 q with q | q
    · obtain ⟨x, x1, x2, x3, x4, x5⟩ := hnf e q
      rw [x3] at hf
      exact haf.heap.low x x1 j c hf
    · obtain ⟨x, x1, x2, x3, _⟩ := hfr e q
      rw [hff e q, x2] at hf
      exact Nat.lt_of_lt_of_le (hH.low x x1 j c hf) haf.size
  · intro e q hr
    rcases List.mem_append.1 q with q | q
    · obtain ⟨x, x1, x2, x3, x4, x5⟩ := hnf e q
      exact hgr x.b e.b (haf.heap.root x x1 x2) x4 x5
    · obtain ⟨x, x1, x2, x3, _⟩ := hfr e q
      rw [x2]; exact hH.root x x1 (by rw [← x3]; exact hr)
  · rintro j c ⟨e, q, hr, hf⟩
    have hf : backF (lookR m) ρ ρ0 k N l0 e.b j c := hf
    rcases List.mem_append.1 q with q | q
    · exact (hnown e q j c hf).imp id (hrwH j c)
    · obtain ⟨x, x1, x2, x3, _⟩ := hfr e q
      rw [hff e q, x2] at hf
      exact .inr ⟨x, x1, by rw [← x3]; exact hr, hf⟩
end
end Go.Vm

namespace Go.Vm
open Go.RowKit
def outSt (v : AV) (H : Heap) (lo : Nat) : St := ⟨[(0, v)], H, 1, lo⟩
section
variable {S : Seat} {H : Heap}
theorem CallA.canon (hS : SeatOk S) {γ : Type} (R : γ → Prop) (vc : γ → AV) (Hc : γ → Heap) {f : Nat} {args : List AV}
    (h : CallA S f args H fun v H' => ∃ g, R g ∧ FitsT S (outSt v H' H.next) (outSt (vc g) (Hc g) H.next)) : CallA S f args H fun v H' => ∃ g, R g ∧ v = vc g ∧ H' = Hc g := by
  unfold CallA at h ⊢
  intro ρ w rs hH hr hl
  refine (h ρ w rs hH hr hl).mono ?_
  rintro e w' ⟨v, r, H', ρ', rfl, ⟨g, hg, hf⟩, hv, hvl, ha⟩
  have hi : Inv S ρ H w (outSt v H' H.next) ρ' ⟨#[r], []⟩ w' := by
    refine ⟨fun t => ?_, rfl, rfl, rfl, ha⟩
    simp only [outSt, look]
    split
    · rename_i e
      have e := Nat.eq_of_beq_eq_true e
      subst e
      exact ⟨hv, hvl⟩
    · exact ⟨trivial, trivial⟩
  unfold FitsT at hf
  obtain ⟨ρ2, hi2⟩ := hf _ _ _ _ _ _ hi
  have h0 := hi2.env 0
  exact ⟨vc g, r, Hc g, ρ2, rfl, ⟨g, hg, rfl, rfl⟩, h0.1, h0.2, hi2.after⟩
end
end Go.Vm

namespace Go.Vm
open Go.RowKit
section
variable (S : Seat)
def stillOpA (o : Op) (ev : Operand → AV) (H : Heap) (K : AV → Prop) : Prop :=
  match kindOf S o with
  | .pure => pureA S o ev K
  | .read => readA S o ev H K
  | _ => False
def stillA (all : List Oper) (n : Nat) : List Oper → List (Nat × AV) → Heap → (List (Nat × AV) → Prop) → Prop
  | [], env, _, K => K env
  | o :: r, env, H, K => wantA all o env
      (fun env => stillOpA S o.op (evA env) H fun v => putK o.dst n v env fun env => stillA all n r env H K)
      (fun env => putK o.dst n (.tup []) env fun env => stillA all n r env H K)
end
section
variable {S : Seat} {ρ0 : Lay} {H0 : Heap} {w0 : World} {σ : St} {ρ : Lay} {a : Act} {w : World} {kn kn' : St → Prop} {ke ke' : Nat → St → Prop} {kr kr' : St → Prop} {n lo : Nat} {H : Heap}
theorem want_sound {ops : Array Oper} {o : Oper} {env : List (Nat × AV)} {yes no : List (Nat × AV) → Prop} (h : wantA ops.toList o env yes no) (hi : Inv S ρ0 H0 w0 ⟨env, H, n, lo⟩ ρ a w) :
    ∃ env', Inv S ρ0 H0 w0 ⟨env', H, n, lo⟩ ρ a w ∧ ((Region.wanted o (yielded ops a.tmps) = true ∧ yes env') ∨ (Region.wanted o (yielded ops a.tmps) = false ∧ no env')) := by
  unfold wantA at h
  split at h
  · rename_i hg
    exact ⟨env, hi, .inl ⟨by simp [Region.wanted, hg], h⟩⟩
  · rename_i j want hg
    split at h
    · exact h.elim
    · rename_i oj hj
      have hj' : ops[j]? = some oj := by simpa using hj
      split at h
      · exact h.elim
      · rename_i d hdst
        have hd' := hi.env d
        have hyield : ∀ b, a.tmps.getD d undef = .bool b → yielded ops a.tmps j = some b := by
          intro b hb
          have : a.tmps[d]? = some (.bool b) := by
            rw [Array.getD_eq_getD_getElem?] at hb
            cases hq : a.tmps[d]? with
            | none => rw [hq] at hb; simp [undef] at hb
            | some v => rw [hq] at hb; simpa using hb
          simp [yielded, hj', hdst, this]
        have hwant : ∀ b, a.tmps.getD d undef = .bool b → Region.wanted o (yielded ops a.tmps) = (b == want) := by
          intro b hb
          simp [Region.wanted, hg, hyield b hb]
        simp only at hd'
        split at h
        · rename_i e
          rw [e] at hd'
          have hw := hwant _ hd'.1
          cases want with
          | true => exact ⟨env, hi, .inl ⟨by rw [hw]; rfl, h⟩⟩
          | false => exact ⟨env, hi, .inr ⟨by rw [hw]; rfl, h⟩⟩
        · rename_i e
          rw [e] at hd'
          have hw := hwant _ hd'.1
          cases want with
          | true => exact ⟨env, hi, .inr ⟨by rw [hw]; rfl, h⟩⟩
          | false => exact ⟨env, hi, .inl ⟨by rw [hw]; rfl, h⟩⟩
        · rename_i p e
          have hcase : p ∨ ¬p := Classical.em p
          rw [e] at hd'
          obtain ⟨⟨b, hb, hbp⟩, -⟩ := hd'
          have hw := hwant _ hb
          rcases hcase with hp | hp
          · have hb1 : b = true := hbp.2 hp
            have hi' := hi.refine (t := d) (v := .tt) (fun r q => prop_tt hp e r q) trivial
            subst hb1
            cases want with
            | true => exact ⟨_, hi', .inl ⟨by rw [hw]; rfl, h.1 hp⟩⟩
            | false => exact ⟨_, hi', .inr ⟨by rw [hw]; rfl, h.1 hp⟩⟩
          · have hb1 : b = false := by
              cases b
              · rfl
              · exact absurd (hbp.1 rfl) hp
            have hi' := hi.refine (t := d) (v := .ff) (fun r q => prop_ff hp e r q) trivial
            subst hb1
            cases want with
            | true => exact ⟨_, hi', .inr ⟨by rw [hw]; rfl, h.2 hp⟩⟩
            | false => exact ⟨_, hi', .inl ⟨by rw [hw]; rfl, h.2 hp⟩⟩
        · rename_i vs e
          split at h
          · rw [e] at hd'
            obtain ⟨⟨cs, hb, hc⟩, -⟩ := hd'
            have hc : cs = [] := hc
            subst hc
            refine ⟨env, hi, .inr ⟨?_, h⟩⟩
            have hy : yielded ops a.tmps j = none := by
              rw [Array.getD_eq_getD_getElem?] at hb
              cases hq : a.tmps[d]? with
              | none => simp [yielded, hj', hdst, hq]
              | some v => rw [hq] at hb; simp at hb; simp [yielded, hj', hdst, hq, hb]
            simp [Region.wanted, hg, hy]
          · exact h.elim
        · exact h.elim
theorem stillOp_sound (hS : SeatOk S) {o : Oper} {env : List (Nat × AV)} {K : AV → Prop} (h : stillOpA S o.op (evA env) H K) (hi : Inv S ρ0 H0 w0 ⟨env, H, n, lo⟩ ρ a w) :
    ∃ r v, K v ∧ VRel ρ v r ∧ v.lt H.next ∧ (execOp a.eval o).run S.P w = .ok (.value r) w := by
  unfold stillOpA at h
  split at h
  · obtain ⟨r, ⟨v, hK, hv, hl⟩, hr⟩ := pure_sound hS (fun x => (hi.ev x).1) (fun _ => rfl) (fun x => (hi.ev x).2) h
    exact ⟨r, v, hK, hv, hl, hr w⟩
  · obtain ⟨r, ⟨v, hK, hv, hl⟩, hr⟩ := read_sound hi.after.heap (fun x => (hi.ev x).1) h
    exact ⟨r, v, hK, hv, hl, hr⟩
  · exact h.elim
theorem HRel.same (h : HRel S ρ H w) {w' : World} (hw : w'.heap = w.heap) : HRel S ρ H w' :=
  ⟨fun e he => (h.holds e he).turn (h.enc e he) (h.key e he).1 (.refl _ _) (Nat.le_refl _) (fun k arr T fz q => ⟨arr, fz, by rw [hw]; exact q, rfl, id, fun _ _ => rfl⟩), h.key, h.sep, h.keys, h.glob, h.enc, fun e he k c q => by rw [hw]; exact h.low e he k c q, h.root⟩
theorem Inv.drew (hi : Inv S ρ0 H0 w0 σ ρ a w) (k : Nat) : Inv S ρ0 H0 w0 σ ρ a { w with drawn := k } :=
  ⟨hi.env, hi.size, hi.defers, hi.lo, ⟨hi.after.next, hi.after.agree, hi.after.heap.same rfl, hi.after.size, ⟨hi.after.frame.obj, hi.after.frame.cells⟩, hi.after.own, hi.after.os, hi.after.tape, hi.after.output⟩⟩
end
end Go.Vm
