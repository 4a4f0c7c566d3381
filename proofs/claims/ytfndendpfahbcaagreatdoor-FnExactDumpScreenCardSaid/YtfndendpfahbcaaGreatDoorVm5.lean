/- An abstract machine over the loaded code: parts of values. -/
import Derived.Test.YtfndendpfahbcaaGreatDoorVm4
import Derived.Laws.Tables
set_option linter.unusedSimpArgs false
set_option linter.unusedVariables false
namespace Go.Vm
open Go.RowKit
section
variable {S : Seat} {ρ : Loc} {N : Nat}

theorem cells_rel {v : AV} {r : Value} {K : List AV → Prop} (h : cellsK v K) (hr : VRel ρ v r) (hl : v.lt N) :
    ∃ cs, K cs ∧ VRels ρ cs r.cells.toList ∧ AV.lts N cs := by
  have one : ∀ {v : AV} {r : Value}, VRel ρ v r → v.lt N → (∀ l, r ≠ .agg l) → VRels ρ [v] r.cells.toList ∧ AV.lts N [v] := by
    intro v r hr hl hn
    have : r.cells = #[r] := by cases r <;> first | rfl | exact absurd rfl (hn _)
    rw [this]
    exact ⟨⟨r, [], rfl, hr, rfl⟩, hl, trivial⟩
  cases v with
  | undef => exact h.elim
  | tup l => exact h.elim
  | agg l =>
    obtain ⟨cs, rfl, hc⟩ := hr
    exact ⟨_, h, by simpa [Value.cells] using hc, hl⟩
  | prop p => exact ⟨_, h, one hr hl fun l e => by obtain ⟨b, e', _⟩ := hr; subst e; cases e'⟩
  | str s => exact ⟨_, h, one hr hl fun l e => by obtain ⟨b, e', _⟩ := hr; subst e; cases e'⟩
  | ptr b m i j => exact ⟨_, h, one hr hl fun l e => by obtain ⟨k, z, _, _, e'⟩ := hr; subst e; cases e'⟩
  | nils => exact ⟨_, h, one hr hl fun l e => by obtain ⟨a, e'⟩ := hr; subst e; cases e'⟩
  | sl b m i n => exact ⟨_, h, one hr hl fun l e => by subst e; rcases hr with ⟨_, _, _, _, e⟩ | ⟨k, z, cap, off, _, _, _, _, _, _, _, e⟩ <;> cases e⟩
  | fn f c => exact ⟨_, h, one hr hl fun l e => by obtain ⟨cs, e', _⟩ := hr; subst e; cases e'⟩
  | tt => exact ⟨_, h, one hr hl fun l e => by subst e; cases hr⟩
  | ff => exact ⟨_, h, one hr hl fun l e => by subst e; cases hr⟩
  | int k n => exact ⟨_, h, one hr hl fun l e => by subst e; cases hr⟩
  | nilp => exact ⟨_, h, one hr hl fun l e => by subst e; cases hr⟩
  | nilf => exact ⟨_, h, one hr hl fun l e => by subst e; cases hr⟩
  | niface => exact ⟨_, h, one hr hl fun l e => by subst e; cases hr⟩

theorem lts_append : ∀ {a b : List AV}, AV.lts N a → AV.lts N b → AV.lts N (a ++ b)
  | [], _, _, h => h
  | _ :: _, _, h, h' => ⟨h.1, lts_append h.2 h'⟩
theorem lts_take : ∀ {a : List AV} (n : Nat), AV.lts N a → AV.lts N (a.take n)
  | _, 0, _ => by simp [AV.lts]
  | [], _ + 1, _ => by simp [AV.lts]
  | _ :: _, n + 1, h => ⟨h.1, lts_take n h.2⟩
theorem lts_drop : ∀ {a : List AV} (n : Nat), AV.lts N a → AV.lts N (a.drop n)
  | _, 0, h => by simpa using h
  | [], _ + 1, _ => by simp [AV.lts]
  | _ :: _, n + 1, h => by simpa using lts_drop n h.2
theorem lts_get : ∀ {a : List AV} {j : Nat} {v : AV}, AV.lts N a → a[j]? = some v → v.lt N
  | [], _, _, _, h => by simp at h
  | _ :: _, 0, _, h, e => by simp at e; exact e ▸ h.1
  | _ :: _, j + 1, _, h, e => lts_get h.2 (by simpa using e)

theorem putL_rel {z cs : List AV} {off : Nat} {zs rs : List Value} (hz : VRels ρ z zs) (hc : VRels ρ cs rs) :
    VRels ρ (putL z off cs) (zs.take off ++ (rs ++ zs.drop (off + rs.length))) := by
  unfold putL
  rw [show cs.length = rs.length from hc.length.symm]
  exact (hz.take _).append (hc.append (hz.drop _))

theorem foldl_fill (off : Nat) : ∀ (vs : List Value) (k : Nat) (cs : Array Value), off + k + vs.length ≤ cs.size →
    ((vs.zipIdx k).foldl (fun cs x => cs.setIfInBounds (off + x.2) x.1) cs).toList = cs.toList.take (off + k) ++ (vs ++ cs.toList.drop (off + k + vs.length)) := by
  intro vs
  induction vs with
  | nil => intro k cs h; simp
  | cons v vs ih =>
    intro k cs h
    simp only [List.length_cons] at h
    simp only [List.zipIdx_cons, List.foldl_cons]
    rw [ih (k + 1) _ (by simp; omega)]
    have hlt : off + k < cs.toList.length := by simp; omega
    rw [Array.toList_setIfInBounds, show off + (k + 1) = (off + k) + 1 by omega, List.take_succ_eq_append_getElem (by simp; omega), List.take_set_of_le (by omega), List.getElem_set_self,
      List.drop_set_of_lt (by omega)]
    simp [List.length_cons, show off + k + 1 + vs.length = off + k + (vs.length + 1) by omega]

theorem fill_run {place : Nat → Option (Nat × Nat)} {ev : Operand → AV} {evr : Operand → Value} (hev : ∀ x, VRel ρ (ev x) (evr x)) (hlt : ∀ x, (ev x).lt N) :
    ∀ {parts : List (Nat × Operand)} {z : List AV} {K : List AV → Prop} {cells : Array Value}, fillK place ev parts z K → VRels ρ z cells.toList → AV.lts N z →
    ∃ z' cells', K z' ∧ Instr.fill place cells (parts.map fun p => (p.1, evr p.2)) = some cells' ∧ VRels ρ z' cells'.toList ∧ AV.lts N z' ∧ z'.length = z.length
  | [], z, K, cells, h, hz, hl => ⟨z, cells, h, rfl, hz, hl, rfl⟩
  | (i, x) :: r, z, K, cells, h, hz, hl => by
    simp only [fillK] at h
    split at h
    · exact h.elim
    rename_i off size hp
    obtain ⟨cs, h, hc, hcl⟩ := cells_rel h (hev x) (hlt x)
    split at h
    · exact h.elim
    rename_i hlen
    have hlen := Nat.eq_of_beq_eq_true hlen
    split at h
    · exact h.elim
    rename_i hle
    have hle := Nat.le_of_ble_eq_true hle
    have h := forceL_out h
    have e1 : (evr x).cells.size = cs.length := by rw [← hc.length]; simp
    have e2 : cells.size = z.length := by rw [← hz.length]; simp
    have hf := foldl_fill off (evr x).cells.toList 0 cells (by simp [e1, e2]; omega)
    have hput := putL_rel (off := off) hz hc
    obtain ⟨z', cells', hK, hfill, hz', hl', hlen'⟩ := fill_run hev hlt (cells := ((evr x).cells.toList.zipIdx 0).foldl (fun cs x => cs.setIfInBounds (off + x.2) x.1) cells) h
      (by rw [hf]; simpa using hput) (lts_append (lts_take _ hl) (lts_append hcl (lts_drop _ hl)))
    refine ⟨z', cells', hK, ?_, hz', hl', ?_⟩
    · simp only [List.map_cons, Instr.fill, hp]
      rw [if_neg (by simp [e1, e2, hlen]; omega)]
      rw [← hfill]
      congr 1
      rw [← Array.foldl_toList, Array.toList_zipIdx]
    · rw [hlen']; simp [putL]; omega

theorem placesL_mapM : ∀ {fs : List Field} {l : List (Nat × Nat)}, placesL S fs = some l → fs.mapM (fun f => (S.P.info? f.type).map fun i => (f.offset, i.size)) = some l
  | [], l, h => by simp [placesL] at h; simp [h]
  | f :: r, l, h => by
    simp only [placesL] at h
    split at h
    · rename_i i hi
      split at h
      · rename_i l' hl
        simp at h; subst h
        simp [List.mapM_cons, hi, placesL_mapM hl]
      · simp at h
    · simp at h

theorem map_cst_rel : ∀ l : List Value, VRels ρ (l.map cst) l
  | [] => rfl
  | v :: l => ⟨v, l, rfl, cst_rel ρ v, map_cst_rel l⟩
theorem cst_lt (v : Value) : (cst v).lt N := by
  unfold cst
  split <;> first | trivial | (split <;> trivial)
theorem map_cst_lt : ∀ l : List Value, AV.lts N (l.map cst)
  | [] => trivial
  | v :: l => ⟨cst_lt v, map_cst_lt l⟩

theorem zero_out {T : TypeId} {K : List AV → Prop} (h : zeroK S T K) : ∃ i z, S.P.info? T = some i ∧ i.zero = some z ∧ K (z.cells.toList.map cst) := by
  unfold zeroK at h
  split at h
  · rename_i i hi
    split at h
    · rename_i z hz
      exact ⟨i, z, hi, hz, forceL_out h⟩
    · exact h.elim
  · exact h.elim

theorem part_rel {T : TypeId} {l : List AV} {j : Nat} {K : AV → Prop} {cs : List Value} (h : partA S T l j K) (hr : VRels ρ l cs) (hl : AV.lts N l) :
    (aggB S T = some true ∧ 0 < szA S T ∧ j + szA S T ≤ cs.length ∧ Got ρ N K (.agg ((cs.drop j).take (szA S T)).toArray)) ∨
    (aggB S T = some false ∧ ∃ r, cs[j]? = some r ∧ Got ρ N K r) := by
  unfold partA at h
  split at h
  · rename_i e
    left
    split at h
    · rename_i hle hpos
      have h := forceL_out h
      exact ⟨e, Nat.le_of_ble_eq_true hpos, by rw [hr.length]; exact Nat.le_of_ble_eq_true hle, _, h, ⟨_, rfl, (hr.drop _).take _⟩, lts_take _ (lts_drop _ hl)⟩
    · exact h.elim
  · rename_i e
    right
    split at h
    · rename_i v hv
      have h := forceV_out h
      obtain ⟨r, hr', hv'⟩ := hr.get hv
      exact ⟨e, r, hr', _, h, hv', lts_get hl hv⟩
    · exact h.elim
  · exact h.elim

theorem isAgg_run {T : TypeId} {b : Bool} (h : aggB S T = some b) (w : World) : (isAgg T).run S.P w = .ok b w := by
  unfold aggB at h
  split at h
  · rename_i d e; simp at h; subst h; simp [isAgg, run_und e]
  · rename_i d e; simp at h; subst h; simp [isAgg, run_und e]
  · rename_i d h1 h2 e
    simp at h; subst h
    simp only [isAgg, Sem.run_bind, run_und e, Result.andThen_ok]
    first | rfl | (split <;> first | rfl | (exfalso; first | exact h1 _ rfl | exact h2 _ _ rfl))
  · simp at h

theorem sz_pos_info {T : TypeId} (h : 0 < szA S T) : ∃ i, S.P.info? T = some i ∧ i.size = szA S T := by
  unfold szA at h ⊢
  split at h
  · rename_i i hi; exact ⟨i, hi, by simp⟩
  · omega
end
end Go.Vm
