/- An abstract machine over the loaded code: calls, and operations that write memory. -/
import Derived.Test.YtfndendpfahbcaaGreatDoorVm10
import Derived.Laws.CopyRow
set_option linter.unusedSimpArgs false
set_option linter.unusedVariables false
namespace Go.Vm
open Go.RowKit

section
variable (S : Seat)

/-- a call: how it ends, and how memory has turned -/
@[irreducible] def CallA (f : Nat) (args : List AV) (H : Heap) (K : AV → Heap → Prop) : Prop :=
  ∀ (ρ : Loc) (w : World) (rs : List Value), HRel S ρ H w → VRels ρ args rs → AV.lts H.next args →
    Calls S.P f rs.toArray w fun e w' => ∃ v r H' ρ', e = .returned r ∧ K v H' ∧ VRel ρ' v r ∧ v.lt H'.next ∧ After S ρ H w ρ' H' w'

theorem CallA.mono {S : Seat} {f : Nat} {args : List AV} {H : Heap} {K K' : AV → Heap → Prop} (h : CallA S f args H K) (hk : ∀ v H', K v H' → K' v H') : CallA S f args H K' := by
  unfold CallA at h ⊢
  exact fun ρ w rs h1 h2 h3 => (h ρ w rs h1 h2 h3).mono fun _ _ ⟨v, r, H', ρ', e, k, rest⟩ => ⟨v, r, H', ρ', e, hk _ _ k, rest⟩

def storeA (T : TypeId) (a x : AV) (H : Heap) (K : AV → Heap → Prop) : Prop :=
  match a with
  | .ptr b m i j => match getE H.ents b with
    | some ⟨_, true, c⟩ => cellsK x fun cs => match Nat.beq cs.length (szA S T), Nat.ble 1 cs.length, flatL cs with
      | true, true, true => match c with
        | .raw vs => match i with
          | none => match Nat.ble (j + cs.length) vs.length with
            | true => setH H b (.raw (putL vs j cs)) fun H => K .undef H
            | false => False
          | some (.ofNat n) => match Nat.ble (n * m + j + cs.length) vs.length with
            | true => setH H b (.raw (putL vs (n * m + j) cs)) fun H => K .undef H
            | false => False
          | _ => False
        | .arr E xs => match i with
          | none => 0 < xs.length ∧ match E.put (xs.getD 0 E.d) j cs with
            | some y => setH H b (.arr E (xs.set 0 y)) fun H => K .undef H
            | none => False
          | some i => match Nat.beq m E.m with
            | true => (0 ≤ i ∧ i < xs.length) ∧ match E.put (xs.getD i.toNat E.d) j cs with
              | some y => setH H b (.arr E (xs.set i.toNat y)) fun H => K .undef H
              | none => False
            | false => False
        | _ => False
      | _, _, _ => False
    | _ => False
  | _ => False
end

section
variable {S : Seat} {ρ ρ' : Loc} {H : Heap} {w w' : World} {N N' : Nat}

/-- one cell after the other is written -/
theorem store_run (P : Program) (g o : Nat) (T : TypeId) (fz : Nat × Nat) : ∀ (vs : List Value) (i : Nat) (arr : Array Value) (w : World), w.heap[g]? = some (.cells arr T fz) → o + i + vs.length ≤ arr.size →
    (∀ x, o + i ≤ x → x < o + i + vs.length → ¬(fz.1 ≤ x ∧ x < fz.2)) → (∀ v ∈ vs, v.oneCell' = true) →
    ∃ w' arr', (storeCells ⟨g, o, none⟩ vs i).run P w = .ok () w' ∧ w'.heap[g]? = some (.cells arr' T fz) ∧ arr'.toList = arr.toList.take (o + i) ++ (vs ++ arr.toList.drop (o + i + vs.length)) ∧
      (∀ k, k ≠ g → w'.heap[k]? = w.heap[k]?) ∧ w'.heap.size = w.heap.size ∧ w'.os = w.os ∧ w'.tape = w.tape ∧ w'.output = w.output
  | [], i, arr, w, h, hl, hf, h1 => ⟨w, arr, rfl, h, by simp, fun _ _ => rfl, rfl, rfl, rfl, rfl⟩
  | v :: vs, i, arr, w, h, hl, hf, h1 => by
    simp only [List.length_cons] at hl
    have ha : (Addr.add ⟨g, o, none⟩ i) = ⟨g, o + i, none⟩ := by
      simp only [Addr.add]; split
      · rename_i q; simp [q]
      · rfl
    have hcell : w.cell? ⟨g, o + i, none⟩ = some arr[o + i] := by
      simp only [World.cell?, h]
      simp
    have hfr : w.frozen? ⟨g, o + i, none⟩ = false := by
      simp only [World.frozen?, h]
      have := hf (o + i) (by omega) (by simp)
      simpa using this
    have hs : (w.setCell ⟨g, o + i, none⟩ v).heap[g]? = some (.cells (arr.setIfInBounds (o + i) v) T fz) := by
      simp only [World.setCell, Array.getElem?_modify, h]
      simp
    obtain ⟨w', arr', r1, r2, r3, r4, r5, r6, r7, r8⟩ := store_run P g o T fz vs (i + 1) _ _ hs (by simp; omega) (fun x q1 q2 => hf x (by omega) (by simp only [List.length_cons]; omega)) fun u hu => h1 u (List.mem_cons_of_mem _ hu)
    refine ⟨w', arr', ?_, r2, ?_, ?_, ?_, r6, r7, r8⟩
    · simp only [storeCells, Sem.run_bind, ha, run_store P w _ v .plain (h1 v List.mem_cons_self), hcell, hfr]
      simpa using r1
    · rw [r3, Array.toList_setIfInBounds, show o + (i + 1) = (o + i) + 1 by omega, List.take_succ_eq_append_getElem (by simp; omega), List.take_set_of_le (by omega), List.getElem_set_self, List.drop_set_of_lt (by omega)]
      simp [List.length_cons, show o + i + 1 + vs.length = o + i + (vs.length + 1) by omega]
    · intro k hk
      rw [r4 k hk]
      simp only [World.setCell, Array.getElem?_modify]
      rw [if_neg (Ne.symm hk)]
    · rw [r5]; simp [World.setCell]

theorem flatL_one : ∀ {cs : List AV} {rs : List Value}, flatL cs = true → VRels ρ cs rs → ∀ v ∈ rs, v.oneCell' = true
  | [], rs, _, hr, v, hv => by rw [hr] at hv; simp at hv
  | a :: cs, rs, h, hr, v, hv => by
    obtain ⟨r, rs', rfl, h1, h2⟩ := hr
    simp only [flatL] at h
    split at h
    · rename_i hf
      simp only [List.mem_cons] at hv
      rcases hv with rfl | hv
      · cases a with
        | undef => simp [flatV] at hf
        | agg l => simp [flatV] at hf
        | tup l => simp [flatV] at hf
        | prop p => obtain ⟨b, e, _⟩ := h1; rw [e]; rfl
        | str s => obtain ⟨b, e, _⟩ := h1; rw [e]; rfl
        | ptr b m i j => obtain ⟨k, z, _, _, e⟩ := h1; rw [e]; rfl
        | nils => obtain ⟨a, e⟩ := h1; rw [e]; rfl
        | sl b m i n => rcases h1 with ⟨_, _, _, _, e⟩ | ⟨k, z, cap, off, _, _, _, _, _, _, _, e⟩ <;> (rw [e]; rfl)
        | fn f c => obtain ⟨cs, e, _⟩ := h1; rw [e]; rfl
        | tt => rw [show v = _ from h1]; rfl
        | ff => rw [show v = _ from h1]; rfl
        | int k n => rw [show v = _ from h1]; rfl
        | nilp => rw [show v = _ from h1]; rfl
        | nilf => rw [show v = _ from h1]; rfl
        | niface => rw [show v = _ from h1]; rfl
      · exact flatL_one h h2 v hv
    · simp at h

/-- what is known behind an operation that writes -/
def EffOp (S : Seat) (ρ : Loc) (H : Heap) (w : World) (evr : Operand → Value) (o : Oper) (K : AV → Heap → Prop) : Prop :=
  ∃ v r H' ρ' w', (execOp evr o).run S.P w = .ok r w' ∧ K v H' ∧ (∃ x, r = .value x ∧ VRel ρ' v x ∨ r = .skip ∧ v = .undef) ∧ v.lt H'.next ∧ After S ρ H w ρ' H' w'

theorem elems_set {arr : Array Value} {α : Type} {E : Enc α} {xs : List α} {arr' : Array Value} {T : TypeId} {i j : Nat} {cs : List AV} {rs : List Value} {y : α} (hE : EncOk S.P T E)
    (h : CellsLie ρ N arr (.loc 0) (.arr E xs)) (hi : i < xs.length) (hp : E.put (xs.getD i E.d) j cs = some y) (hr : VRels ρ cs rs)
    (ha : arr'.toList = arr.toList.take (i * E.m + j) ++ (rs ++ arr.toList.drop (i * E.m + j + rs.length))) (hs : arr'.size = arr.size) (b : Blk) : CellsLie ρ N arr' b (.arr E (xs.set i y)) := by
  obtain ⟨h1, h2⟩ := h
  obtain ⟨p1, p2⟩ := hE.put _ _ _ _ hp
  have hrl := hr.length
  refine ⟨by rw [List.length_set, hs]; exact h1, fun t ht => ⟨?_, hE.plain _ _⟩⟩
  rw [List.length_set] at ht
  show VRels ρ (E.cells ((xs.set i y).getD t E.d)) _
  have hm : i * E.m + E.m ≤ arr.size := by
    have : (i + 1) * E.m ≤ xs.length * E.m := Nat.mul_le_mul_right _ (by omega)
    rw [Nat.add_mul, Nat.one_mul] at this; omega
  by_cases hti : t = i
  · subst hti
    have hg : (xs.set t y).getD t E.d = y := by simp [List.getD_eq_getElem?_getD, hi]
    rw [hg]
    have := p2 ρ rs _ (h2 t hi).1 hr
    have e : (arr'.toList.drop (t * E.m)).take E.m = ((arr.toList.drop (t * E.m)).take E.m).take j ++ (rs ++ ((arr.toList.drop (t * E.m)).take E.m).drop (j + rs.length)) := by
      rw [ha]
      have l1 : (arr.toList.take (t * E.m + j)).length = t * E.m + j := by simp; omega
      rw [List.drop_append_of_le_length (by omega), List.drop_take, Nat.add_sub_cancel_left, List.take_append, List.take_take, List.length_take, List.length_drop, Array.length_toList, List.take_append]
      rw [Nat.min_eq_right (by omega), List.take_take, Nat.min_eq_left (by omega), Nat.min_eq_left (by omega)]
      congr 1
      rw [List.take_of_length_le (by omega)]
      congr 1
      rw [List.drop_take, List.drop_drop]
      congr 1
      · omega
      · congr 1; omega
    rw [e]; exact this
  · have hg : (xs.set i y).getD t E.d = xs.getD t E.d := by simp [List.getD_eq_getElem?_getD, List.getElem?_set_ne (Ne.symm hti)]
    rw [hg]
    have e : (arr'.toList.drop (t * E.m)).take E.m = (arr.toList.drop (t * E.m)).take E.m := by
      have tm : t * E.m + E.m ≤ arr.size := by
        have : (t + 1) * E.m ≤ xs.length * E.m := Nat.mul_le_mul_right _ (by omega)
        rw [Nat.add_mul, Nat.one_mul] at this; omega
      apply List.ext_getElem?
      intro q
      simp only [List.getElem?_take, List.getElem?_drop]
      split
      · rename_i hq
        rw [ha]
        rcases Nat.lt_or_ge t i with hlt | hge
        · have : (t + 1) * E.m ≤ i * E.m := Nat.mul_le_mul_right _ (by omega)
          rw [Nat.add_mul, Nat.one_mul] at this
          rw [List.getElem?_append_left (by simp; omega), List.getElem?_take, if_pos (by omega)]
        · have : (i + 1) * E.m ≤ t * E.m := Nat.mul_le_mul_right _ (by omega)
          rw [Nat.add_mul, Nat.one_mul] at this
          rw [List.getElem?_append_right (by simp; omega), List.getElem?_append_right (by simp; omega), List.getElem?_drop]
          congr 1
          simp; omega
      · rfl
    rw [e]; exact (h2 t ht).1

theorem take_splice {α : Type} (L R : List α) {p n : Nat} (h : p + R.length ≤ n) (hn : n ≤ L.length) :
    (L.take p ++ (R ++ L.drop (p + R.length))).take n = (L.take n).take p ++ (R ++ (L.take n).drop (p + R.length)) := by
  have h1 : (L.take p).length = p := by simp; omega
  rw [List.take_append, h1, List.take_of_length_le (show (L.take p).length ≤ n by omega), List.take_append, List.take_of_length_le (show R.length ≤ n - p by omega), List.take_take, Nat.min_eq_left (by omega), List.drop_take, Nat.sub_sub]

theorem store_sound {T : TypeId} {a x : Operand} {o : Oper} {ev : Operand → AV} {evr : Operand → Value} {K : AV → Heap → Prop} (ho : o.op = .store T a x) (hH : HRel S ρ H w) (hev : ∀ x, VRel ρ (ev x) (evr x)) (hlt : ∀ x, (ev x).lt H.next)
    (h : storeA S T (ev a) (ev x) H K) : EffOp S ρ H w evr o K := by
  unfold storeA at h
  have ha := hev a
  split at h
  · rename_i b m i j e
    rw [e] at ha
    obtain ⟨k, z, hb, hi, er⟩ := ha
    split at h
    · rename_i b' c hg
      obtain ⟨hmem, hkey⟩ := getE_mem hg
      have hkey := hkey.symm
      simp only at hkey
      subst hkey
      obtain ⟨cs, h', hr, hl⟩ := cells_rel h (hev x) (hlt x)
      clear h
      have h := h'
      clear h'
      split at h
      · rename_i hsz hpos hflat
        have hsz := Nat.eq_of_beq_eq_true hsz
        have hpos := Nat.le_of_ble_eq_true hpos
        have hone := flatL_one hflat hr
        have hrl := hr.length
        have hlies := (hH.holds _ hmem).lies
        simp only [Lies, hb] at hlies
        obtain ⟨arr0, TT, fz, g1, g2, g3, g4⟩ := hlies
        have hsz2 := own_size g2
        generalize harr : own arr0 z = arr at g4 hsz2
        have hrun0 : ∀ w, (execOp evr o).run S.P w = ((storeVar T ⟨k, z.1 + ((i.getD 0).toNat * m + j), none⟩ (evr x)).run S.P w).andThen fun _ w' => .ok .skip w' := by
          intro w
          obtain ⟨dst, op, ty, pos, after, g⟩ := o
          simp only at ho
          subst ho
          simp only [execOp, Instr.storeAt, Instr.sureAddr, er, Sem.run_bind, Sem.run_pure, Result.andThen_ok]
        -- the store itself
        have key : ∀ (c' : Cont), (i.getD 0).toNat * m + j + cs.length ≤ arr.size → (∀ b', InC c' b b' → b' = b) → ContOk S c' → K .undef ⟨setE H.ents b c', H.next⟩ →
            (∀ arr' : Array Value, arr'.toList = arr.toList.take ((i.getD 0).toNat * m + j) ++ ((evr x).cells.toList ++ arr.toList.drop ((i.getD 0).toNat * m + j + (evr x).cells.toList.length)) → arr'.size = arr.size → CellsLie ρ H.next arr' b c') →
            EffOp S ρ H w evr o K := by
          intro c' hle hin hok hK hc'
          obtain ⟨w', arr0', r1, r2, r3, r4, r5, r6, r7, r8⟩ := store_run S.P k (z.1 + ((i.getD 0).toNat * m + j)) TT fz (evr x).cells.toList 0 arr0 w g1 (by rw [hrl]; omega) (fun y q1 q2 => by have := g3 trivial; rw [hrl] at q2; omega) hone
          simp only [Nat.add_zero] at r3
          have hsize0 : arr0'.size = arr0.size := by
            have := congrArg List.length r3
            simp only [List.length_append, List.length_take, List.length_drop, Array.length_toList] at this
            rw [Array.length_toList] at hrl
            omega
          have r3' := own_splice (z := z) (by rw [hrl]; omega) g2 r3
          rw [harr] at r3'
          have hsize : (own arr0' z).size = arr.size := by rw [own_size (by omega), hsz2]
          have hlies' : Lies ρ H.next w' true b c' := by
            simp only [Lies, hb]
            exact ⟨arr0', TT, fz, r2, by omega, fun _ => by rw [hsize0]; exact g3 trivial, hc' _ r3' hsize⟩
          have hholds : Holds ρ H.next w' true c' b := by
            cases c' with
            | raw vs => exact hlies'
            | arr E xs => exact hlies'
            | nest m d g s f xs =>
              refine ⟨hlies', fun i hi j hj => ?_⟩
              have := hin (.sub b i j) (.inr ⟨i, hi, j, hj, InC.self _ _⟩)
              have hbk := (hH.key _ hmem).2
              simp only at hbk
              rw [← this] at hbk
              exact hbk.elim
          refine ⟨.undef, .skip, _, ρ, w', ?_, hK, ⟨.nilIface, .inr ⟨rfl, rfl⟩⟩, trivial, hH.update hg rfl hb hin hok hlies' r4 hholds (by omega) r6 r7 r8⟩
          rw [hrun0]
          have hcs : (evr x).cells.size = szA S T := by rw [← hsz, ← hrl]; simp
          have hsr := run_size (S := S) (T := T) (by omega) w
          simp only [storeVar, Sem.run_bind, hsr, Result.andThen_ok, hcs]
          rw [if_neg (by simp)]
          simp only [Sem.run_bind, Sem.run_pure, Result.andThen_ok, r1]
        have rawcase : ∀ vs : List AV, c = .raw vs → (i.getD 0).toNat * m + j + cs.length ≤ vs.length → K .undef ⟨setE H.ents b (.raw (putL vs ((i.getD 0).toNat * m + j) cs)), H.next⟩ → EffOp S ρ H w evr o K := by
          rintro vs rfl hle hK
          obtain ⟨q1, q2, q3⟩ := g4
          refine key (.raw (putL vs ((i.getD 0).toNat * m + j) cs)) (by omega) (fun b' h => h) trivial hK fun arr' e1 e2 => ?_
          have hpl : (putL vs ((i.getD 0).toNat * m + j) cs).length = vs.length := by simp [putL]; omega
          refine ⟨by rw [hpl, e2]; exact q1, ?_, lts_append (lts_take _ q3) (lts_append hl (lts_drop _ q3))⟩
          have := putL_rel (off := (i.getD 0).toNat * m + j) q2 hr
          rw [hpl, e1]
          have e3 : (arr.toList.take ((i.getD 0).toNat * m + j) ++ ((evr x).cells.toList ++ arr.toList.drop ((i.getD 0).toNat * m + j + (evr x).cells.toList.length))).take vs.length =
              (arr.toList.take vs.length).take ((i.getD 0).toNat * m + j) ++ ((evr x).cells.toList ++ (arr.toList.take vs.length).drop ((i.getD 0).toNat * m + j + (evr x).cells.toList.length)) := by
            exact take_splice _ _ (by rw [hrl]; omega) (by simp; omega)
          rw [e3]; exact this
        have arrcase : ∀ {α : Type} (E : Enc α) (xs : List α) (y : α), c = .arr E xs → (i.getD 0).toNat * m = (i.getD 0).toNat * E.m → (i.getD 0).toNat < xs.length → E.put (xs.getD (i.getD 0).toNat E.d) j cs = some y →
            K .undef ⟨setE H.ents b (.arr E (xs.set (i.getD 0).toNat y)), H.next⟩ → EffOp S ρ H w evr o K := by
          rintro α E xs y rfl hm hlt' hput hK
          obtain ⟨T', hE⟩ := hH.enc _ hmem
          obtain ⟨p1, _⟩ := hE.put _ _ _ _ hput
          have : ((i.getD 0).toNat + 1) * E.m ≤ xs.length * E.m := Nat.mul_le_mul_right _ (by omega)
          rw [Nat.add_mul, Nat.one_mul] at this
          have := g4.1
          refine key (.arr E (xs.set (i.getD 0).toNat y)) (by rw [hm]; omega) (fun b' h => h) ⟨T', hE⟩ hK fun arr' e1 e2 => ?_
          rw [hm] at e1
          exact elems_set hE g4 hlt' hput hr e1 e2 b
        split at h
        · rename_i vs
          split at h
          · split at h
            · rename_i hle
              have h := setH_out h
              exact rawcase vs rfl (by simpa using Nat.le_of_ble_eq_true hle) (by simpa using h)
            · exact h.elim
          · rename_i n
            split at h
            · rename_i hle
              have h := setH_out h
              exact rawcase vs rfl (Nat.le_of_ble_eq_true hle) h
            · exact h.elim
          · exact h.elim
        · rename_i α E xs
          split at h
          · obtain ⟨hp, h⟩ := h
            split at h
            · rename_i y hy
              have h := setH_out h
              exact arrcase E xs y rfl (by simp) (by simpa using hp) hy h
            · exact h.elim
          · rename_i i0
            split at h
            · rename_i hm
              have hm := Nat.eq_of_beq_eq_true hm
              obtain ⟨⟨h0, hp⟩, h⟩ := h
              split at h
              · rename_i y hy
                have h := setH_out h
                exact arrcase E xs y rfl (by rw [hm]) (by simp; omega) hy h
              · exact h.elim
            · exact h.elim
        · exact h.elim
      · exact h.elim
    · exact h.elim
  · exact h.elim
end
end Go.Vm
