/- An abstract machine over the loaded code: calls, and operations that write memory. -/
import Derived.Test.YtfjodggmmokaaaaGreatDAC
import Derived.Laws.CopyRow
set_option linter.unusedSimpArgs false
set_option linter.unusedVariables false
set_option linter.constructorNameAsVariable false
namespace Go.Vm
open Go.RowKit
section
variable (S : Seat)
@[irreducible] def CallA (f : Nat) (args : List AV) (H : Heap) (K : AV → Heap → Prop) : Prop :=
  ∀ (ρ : Lay) (w : World) (rs : List Value), HRel S ρ H w → VRels ρ args rs → AV.lts H.next args →
    Calls S.P f rs.toArray w fun e w' => ∃ v r H', ∃ ρ' : Lay, e = .returned r ∧ K v H' ∧ VRel ρ' v r ∧ v.lt H'.next ∧ After S ρ H w ρ' H' w'
theorem CallA.mono {S : Seat} {f : Nat} {args : List AV} {H : Heap} {K K' : AV → Heap → Prop} (h : CallA S f args H K) (hk : ∀ v H', K v H' → K' v H') : CallA S f args H K' := by
  unfold CallA at h ⊢
  exact fun ρ w rs h1 h2 h3 => (h ρ w rs h1 h2 h3).mono fun _ _ ⟨v, r, H', ρ', e, k, rest⟩ => ⟨v, r, H', ρ', e, hk _ _ k, rest⟩
def storeA (T : TypeId) (a x : AV) (H : Heap) (K : AV → Heap → Prop) : Prop :=
  match a with
  | .ptr b m i j => match getE H.ents b with
    | some ⟨_, true, c⟩ => cellsK x fun cs => match Nat.beq cs.length (szA S T), Nat.ble 1 cs.length, flatL cs with
      | true, true, true => match c with
        | .raw vs => match i with
          | none => match Nat.ble (j + cs.length) vs.length with
            | true => setH H b (.raw (putL vs j cs)) fun H => K .undef H
            | false => False
          | some (.ofNat n) => match Nat.ble (n * m + j + cs.length) vs.length with
            | true => setH H b (.raw (putL vs (n * m + j) cs)) fun H => K .undef H
            | false => False
          | _ => False
        | .arr E xs => match i with
          | none => 0 < xs.length ∧ match E.put (xs.getD 0 E.d) j cs with
            | some y => setH H b (.arr E (xs.set 0 y)) fun H => K .undef H
            | none => False
          | some i => match Nat.beq m E.m with
            | true => (0 ≤ i ∧ i < xs.length) ∧ match E.put (xs.getD i.toNat E.d) j cs with
              | some y => setH H b (.arr E (xs.set i.toNat y)) fun H => K .undef H
              | none => False
            | false => False
        | .nest m' d g s f xs o => match i with
          | none => False
          | some i => match Nat.beq m m' with
            | false => False
            | true => match o with
              | some p => match p with
                | (i0, cs0) => i = i0 ∧ match Nat.ble (j + cs.length) cs0.length with
                  | true => setH H b (.nest m' d g s f xs (some (i, putL cs0 j cs))) fun H => K .undef H
                  | false => False
              | none => match j with
                | 0 => match Nat.beq cs.length m with
                  | true => (0 ≤ i ∧ i < xs.length) ∧ setH H b (.nest m' d g s f xs (some (i, cs))) fun H => K .undef H
                  | false => False
                | _ => False
      | _, _, _ => False
    | _ => False
  | _ => False
end
section
variable {S : Seat} {ρ ρ' : Lay} {H : Heap} {w w' : World} {N N' : Nat}
theorem store_run (P : Program) (g o : Nat) (T : TypeId) (fz : Nat × Nat) : ∀ (vs : List Value) (i : Nat) (arr : Array Value) (w : World), w.heap[g]? = some (.cells arr T fz) → o + i + vs.length ≤ arr.size →
    (∀ x, o + i ≤ x → x < o + i + vs.length → ¬(fz.1 ≤ x ∧ x < fz.2)) → (∀ v ∈ vs, v.oneCell' = true) →
    ∃ w' arr', (storeCells ⟨g, o, none⟩ vs i).run P w = .ok () w' ∧ w'.heap[g]? = some (.cells arr' T fz) ∧ arr'.toList = arr.toList.take (o + i) ++ (vs ++ arr.toList.drop (o + i + vs.length)) ∧
      (∀ k, k ≠ g → w'.heap[k]? = w.heap[k]?) ∧ w'.heap.size = w.heap.size ∧ w'.os = w.os ∧ w'.tape = w.tape ∧ w'.output = w.output
  | [], i, arr, w, h, hl, hf, h1 => ⟨w, arr, rfl, h, by simp, fun _ _ => rfl, rfl, rfl, rfl, rfl⟩
  | v :: vs, i, arr, w, h, hl, hf, h1 => by
    simp only [List.length_cons] at hl
    have ha : (Addr.add ⟨g, o, none⟩ i) = ⟨g, o + i, none⟩ := by
      simp only [Addr.add]; split
      · rename_i q; simp [q]
      · rfl
    have hcell : w.cell? ⟨g, o + i, none⟩ = some arr[o + i] := by
      simp only [World.cell?, h]
      simp
    have hfr : w.frozen? ⟨g, o + i, none⟩ = false := by
      simp only [World.frozen?, h]
      have := hf (o + i) (by omega) (by simp)
      simpa using this
    have hs : (w.setCell ⟨g, o + i, none⟩ v).heap[g]? = some (.cells (arr.setIfInBounds (o + i) v) T fz) := by
      simp only [World.setCell, Array.getElem?_modify, h]
      simp
    obtain ⟨w', arr', r1, r2, r3, r4, r5, r6, r7, r8⟩ := store_run P g o T fz vs (i + 1) _ _ hs (by simp; omega) (fun x q1 q2 => hf x (by omega) (by simp only [List.length_cons]; omega)) fun u hu => h1 u (List.mem_cons_of_mem _ hu)
    refine ⟨w', arr', ?_, r2, ?_, ?_, ?_, r6, r7, r8⟩
    · simp only [storeCells, Sem.run_bind, ha, run_store P w _ v .plain (h1 v List.mem_cons_self), hcell, hfr]
      simpa using r1
    · rw [r3, Array.toList_setIfInBounds, show o + (i + 1) = (o + i) + 1 by omega, List.take_succ_eq_append_getElem (by simp; omega), List.take_set_of_le (by omega), List.getElem_set_self, List.drop_set_of_lt (by omega)]
      simp [List.length_cons, show o + i + 1 + vs.length = o + i + (vs.length + 1) by omega]
    · intro k hk
      rw [r4 k hk]
      simp only [World.setCell, Array.getElem?_modify]
      rw [if_neg (Ne.symm hk)]
    · rw [r5]; simp [World.setCell]
theorem flatL_one {ρ : Loc} : ∀ {cs : List AV} {rs : List Value}, flatL cs = true → VRels ρ cs rs → ∀ v ∈ rs, v.oneCell' = true
  | [], rs, _, hr, v, hv => by rw [hr] at hv; simp at hv
  | a :: cs, rs, h, hr, v, hv => by
    obtain ⟨r, rs', rfl, h1, h2⟩ := hr
    simp only [flatL] at h
    split at h
    · rename_i hf
      simp only [List.mem_cons] at hv
      rcases hv with rfl | hv
      · cases a with
        | undef => simp [flatV] at hf
        | agg l => simp [flatV] at hf
        | tup l => simp [flatV] at hf
        | prop p => obtain ⟨b, e, _⟩ := h1; rw [e]; rfl
        | str s => obtain ⟨b, e, _⟩ := h1; rw [e]; rfl
        | ptr b m i j => obtain ⟨k, z, _, _, e⟩ := h1; rw [e]; rfl
        | nils => obtain ⟨a, e⟩ := h1; rw [e]; rfl
        | sl b m i n => rcases h1 with ⟨_, _, _, _, e⟩ | ⟨k, z, cap, off, _, _, _, _, _, _, _, e⟩ <;> (rw [e]; rfl)
        | fn f c => obtain ⟨cs, e, _⟩ := h1; rw [e]; rfl
        | tt => rw [show v = _ from h1]; rfl
        | ff => rw [show v = _ from h1]; rfl
        | int k n => rw [show v = _ from h1]; rfl
        | nilp => rw [show v = _ from h1]; rfl
        | nilf => rw [show v = _ from h1]; rfl
        | niface => rw [show v = _ from h1]; rfl
      · exact flatL_one h h2 v hv
    · simp at h
def EffOp (S : Seat) (ρ : Lay) (H : Heap) (w : World) (evr : Operand → Value) (o : Oper) (K : AV → Heap → Prop) : Prop :=
  ∃ v r H', ∃ ρ' : Lay, ∃ w', (execOp evr o).run S.P w = .ok r w' ∧ K v H' ∧ (∃ x, r = .value x ∧ VRel ρ' v x ∨ r = .skip ∧ v = .undef) ∧ v.lt H'.next ∧ After S ρ H w ρ' H' w'
theorem elems_set {ρ : Loc} {arr : Array Value} {α : Type} {E : Enc α} {xs : List α} {arr' : Array Value} {T : TypeId} {i j : Nat} {cs : List AV} {rs : List Value} {y : α} (hE : EncOk S.P T E)
    (h : CellsLie ρ N arr (.loc 0) (.arr E xs)) (hi : i < xs.length) (hp : E.put (xs.getD i E.d) j cs = some y) (hr : VRels ρ cs rs)
    (ha : arr'.toList = arr.toList.take (i * E.m + j) ++ (rs ++ arr.toList.drop (i * E.m + j + rs.length))) (hs : arr'.size = arr.size) (b : Blk) : CellsLie ρ N arr' b (.arr E (xs.set i y)) := by
  obtain ⟨h1, h2⟩ := h
  obtain ⟨p1, p2⟩ := hE.put _ _ _ _ hp
  have hrl := hr.length
  refine ⟨by rw [List.length_set, hs]; exact h1, fun t ht => ⟨?_, hE.plain _ _⟩⟩
  rw [List.length_set] at ht
  show VRels ρ (E.cells ((xs.set i y).getD t E.d)) _
  have hm : i * E.m + E.m ≤ arr.size := by
    have : (i + 1) * E.m ≤ xs.length * E.m := Nat.mul_le_mul_right _ (by omega)
    rw [Nat.add_mul, Nat.one_mul] at this; omega
  by_cases hti : t = i
  · subst hti
    have hg : (xs.set t y).getD t E.d = y := by simp [List.getD_eq_getElem?_getD, hi]
    rw [hg]
    have := p2 ρ rs _ (h2 t hi).1 hr
    have e : (arr'.toList.drop (t * E.m)).take E.m = ((arr.toList.drop (t * E.m)).take E.m).take j ++ (rs ++ ((arr.toList.drop (t * E.m)).take E.m).drop (j + rs.length)) := by
      rw [ha]
      have l1 : (arr.toList.take (t * E.m + j)).length = t * E.m + j := by simp; omega
      rw [List.drop_append_of_le_length (by omega), List.drop_take, Nat.add_sub_cancel_left, List.take_append, List.take_take, List.length_take, List.length_drop, Array.length_toList, List.take_append]
      rw [Nat.min_eq_right (by omega), List.take_take, Nat.min_eq_left (by omega), Nat.min_eq_left (by omega)]
      congr 1
      rw [List.take_of_length_le (by omega)]
      congr 1
      rw [List.drop_take, List.drop_drop]
      congr 1
      · omega
      · congr 1; omega
    rw [e]; exact this
  · have hg : (xs.set i y).getD t E.d = xs.getD t E.d := by simp [List.getD_eq_getElem?_getD, List.getElem?_set_ne (Ne.symm hti)]
    rw [hg]
    have e : (arr'.toList.drop (t * E.m)).take E.m = (arr.toList.drop (t * E.m)).take E.m := by
      have tm : t * E.m + E.m ≤ arr.size := by
        have : (t + 1) * E.m ≤ xs.length * E.m := Nat.mul_le_mul_right _ (by omega)
        rw [Nat.add_mul, Nat.one_mul] at this; omega
      apply List.ext_getElem?
      intro q
      simp only [List.getElem?_take, List.getElem?_drop]
      split
      · rename_i hq
        rw [ha]
        rcases Nat.lt_or_ge t i with hlt | hge
        · have : (t + 1) * E.m ≤ i * E.m := Nat.mul_le_mul_right _ (by omega)
          rw [Nat.add_mul, Nat.one_mul] at this
          rw [List.getElem?_append_left (by simp; omega), List.getElem?_take, if_pos (by omega)]
        · have : (i + 1) * E.m ≤ t * E.m := Nat.mul_le_mul_right _ (by omega)
          rw [Nat.add_mul, Nat.one_mul] at this
          rw [List.getElem?_append_right (by simp; omega), List.getElem?_append_right (by simp; omega), List.getElem?_drop]
          congr 1
          simp; omega
      · rfl
    rw [e]; exact (h2 t ht).1
theorem take_splice {α : Type} (L R : List α) {p n : Nat} (h : p + R.length ≤ n) (hn : n ≤ L.length) :
    (L.take p ++ (R ++ L.drop (p + R.length))).take n = (L.take n).take p ++ (R ++ (L.take n).drop (p + R.length)) := by
  have h1 : (L.take p).length = p := by simp; omega
  rw [List.take_append, h1, List.take_of_length_le (show (L.take p).length ≤ n by omega), List.take_append, List.take_of_length_le (show R.length ≤ n - p by omega), List.take_take, Nat.min_eq_left (by omega), List.drop_take, Nat.sub_sub]
theorem splice_apart {L news : List Value} {p i m : Nat} (hp : p + news.length ≤ L.length) (h : p + news.length ≤ i * m ∨ i * m + m ≤ p) : ((L.take p ++ (news ++ L.drop (p + news.length))).drop (i * m)).take m = (L.drop (i * m)).take m := by
  apply List.ext_getElem?
  intro q
  simp only [List.getElem?_take, List.getElem?_drop]
  split
  · rename_i hq
    have l1 : (L.take p).length = p := by simp; omega
    rcases h with h | h
    · rw [List.getElem?_append_right (by omega), List.getElem?_append_right (by omega), List.getElem?_drop, l1]
      congr 1; omega
    · rw [List.getElem?_append_left (by omega), List.getElem?_take, if_pos (by omega)]
  · rfl
theorem splice_in {L news : List Value} {j i m : Nat} (hj : j + news.length ≤ m) (hm : i * m + m ≤ L.length) : ((L.take (i * m + j) ++ (news ++ L.drop (i * m + j + news.length))).drop (i * m)).take m = ((L.drop (i * m)).take m).take j ++ (news ++ ((L.drop (i * m)).take m).drop (j + news.length)) := by
  have l1 : (L.take (i * m + j)).length = i * m + j := by simp; omega
  rw [List.drop_append_of_le_length (by omega), List.drop_take, Nat.add_sub_cancel_left]
  have h2 : ((L.drop (i * m)).take j).length = j := by simp; omega
  rw [List.take_append, h2, List.take_of_length_le (show ((L.drop (i * m)).take j).length ≤ m by omega), List.take_append, List.take_of_length_le (show news.length ≤ m - j by omega), List.take_take, Nat.min_eq_left (by omega)]
  congr 2
  rw [List.drop_take, List.drop_drop, Nat.sub_sub]
  congr 2; omega
theorem nest_write {α : Type} {m : Nat} {d : α} {g : (Nat → Blk) → α → List AV} {s : List Nat} {f : α → Nat → Cont} {xs : List α} {o : Option (Int × List AV)} {b : Blk} {F : Foot} {k : Nat} {z : Nat × Nat} {ρ : Loc}
    (h : HoldsE ρ N w true (.nest m d g s f xs o) b F) (hok : ContOk S (.nest m d g s f xs o)) (hlt : b.lt N) (hb : ρ b = some (k, z)) {arr arr' : Array Value} {T : TypeId} {fz fz' : Nat × Nat} (h0 : w.heap[k]? = some (.cells arr T fz)) (h1 : w'.heap[k]? = some (.cells arr' T fz'))
    (hsz : arr'.size = arr.size) (hf : FzOk fz' arr') {P : Foot} (hP : ∀ k' c, ¬ P k' c → regF (ρ b) k' c) (hw : KeepF P w w') {i j : Nat} (hi : i ≤ xs.length) {news : List Value} (hj : j + news.length ≤ m) (hfit : i * m + m ≤ z.2)
    (hs : (own arr' z).toList = (own arr z).toList.take (i * m + j) ++ (news ++ (own arr z).toList.drop (i * m + j + news.length))) {cs : List AV} (hcl : cs.length = m) (hcs : VRels ρ cs (((own arr' z).toList.drop (i * m)).take m)) (hcn : AV.lts N cs)
    (hlive : ∀ i', i' < xs.length → liveP (some ((i : Int), cs)) i' → liveP o i') (htot : totalN o xs.length * m ≤ z.2) :
    HoldsE ρ N w' true (.nest m d g s f xs (some ((i : Int), cs))) b F := by
  obtain ⟨⟨ρ1, ho, hh⟩, _⟩ := h
  obtain ⟨⟨hl, hreg⟩, Fs, g1, g2, g3⟩ := hh
  have hself : ρ1 b = ρ b := ho b (not_under_self b)
  have hb1 : ρ1 b = some (k, z) := hself.trans hb
  obtain ⟨g4, g5⟩ := g3 rfl
  have hl0 := hl
  simp only [Lies, hb1] at hl
  obtain ⟨arr2, T2, fz2, q1, q2, q3, q4, q5⟩ := hl
  rw [h0] at q1
  simp at q1
  obtain ⟨rfl, rfl, rfl⟩ := q1
  have hown := own_size (arr := arr) (z := z) q2
  have hown' := own_size (arr := arr') (z := z) (by omega)
  refine ⟨⟨ρ1, ho, ⟨?_, hreg⟩, Fs, fun i' p1 p2 j' p3 => ?_, fun i' p1 p2 j' p3 => g2 i' p1 (hlive i' p1 p2) j' p3, fun _ => ⟨fun i' p1 p2 j' p3 => g4 i' p1 (hlive i' p1 p2) j' p3, fun i' p1 p2 j' p3 i2 r1 r2 j2 r3 => g5 i' p1 (hlive i' p1 p2) j' p3 i2 r1 (hlive i2 r1 r2) j2 r3⟩⟩, ?_⟩
  · simp only [Lies, hb1]
    refine ⟨arr', T, fz', h1, by omega, fun _ => hf, ?_, fun i' p1 p2 => ?_⟩
    · simp only [totalN, Int.toNat_natCast]
      have : max xs.length (i + 1) * m ≤ z.2 := by
        rcases Nat.le_total xs.length (i + 1) with q | q
        · rw [Nat.max_eq_right q, Nat.add_mul, Nat.one_mul]; exact hfit
        · rw [Nat.max_eq_left q]
          refine Nat.le_trans (Nat.mul_le_mul_right _ ?_) htot
          unfold totalN; split <;> omega
      omega
    · have := q5 i' p1 (hlive i' p1 p2)
      have e : (((own arr' z).toList.drop (i' * m)).take m) = (((own arr z).toList.drop (i' * m)).take m) := by
        rw [hs]
        have hll : (own arr z).toList.length = z.2 := by simp [hown]
        refine splice_apart (by omega) ?_
        have p2 : (i' : Int) ≠ i := p2
        rcases Nat.lt_or_ge i' i with q | q
        · right
          have : (i' + 1) * m ≤ i * m := Nat.mul_le_mul_right _ (by omega)
          rw [Nat.add_mul, Nat.one_mul] at this; omega
        · left
          have : (i + 1) * m ≤ i' * m := Nat.mul_le_mul_right _ (by omega)
          rw [Nat.add_mul, Nat.one_mul] at this; omega
      rw [e]; exact this
  · exact Holds.turn (hok.2 _ _).1 (g1 i' p1 (hlive i' p1 p2) j' p3) hlt.sub (.refl _ _) (Nat.le_refl _) (hw.mono fun k' c' p => Classical.byContradiction fun q => g4 i' p1 (hlive i' p1 p2) j' p3 k' c' (hself ▸ hP k' c' q) p)
  · exact ⟨by omega, by simp only; omega, hcl, hcn, k, z, arr', T, fz', hb, h1, by simpa using hcs⟩
theorem store_sound {T : TypeId} {a x : Operand} {o : Oper} {ev : Operand → AV} {evr : Operand → Value} {K : AV → Heap → Prop} (ho : o.op = .store T a x) (hH : HRel S ρ H w) (hev : ∀ x, VRel ρ (ev x) (evr x)) (hlt : ∀ x, (ev x).lt H.next)
    (h : storeA S T (ev a) (ev x) H K) : EffOp S ρ H w evr o K := by
  unfold storeA at h
  have ha := hev a
  split at h
  · rename_i b m i j e
    rw [e] at ha
    obtain ⟨k, z, hb, hi, er⟩ := ha
    split at h
    · rename_i b' c hg
      obtain ⟨hmem, hkey⟩ := getE_mem hg
      have hkey := hkey.symm
      simp only at hkey
      subst hkey
      obtain ⟨cs, h', hr, hl⟩ := cells_rel h (hev x) (hlt x)
      clear h
      have h := h'
      clear h'
      split at h
      · rename_i hsz hpos hflat
        have hsz := Nat.eq_of_beq_eq_true hsz
        have hpos := Nat.le_of_ble_eq_true hpos
        have hone := flatL_one hflat hr
        have hrl := hr.length
        have hholds := hH.holds _ hmem
        simp only at hholds
        obtain ⟨arr0, TT, fz, g1, g2, g3⟩ := hholds.block hb
        have g3 := g3 rfl
        have hsz2 := own_size g2
        have hrun0 : ∀ w, (execOp evr o).run S.P w = ((storeVar T ⟨k, z.1 + ((i.getD 0).toNat * m + j), none⟩ (evr x)).run S.P w).andThen fun _ w' => .ok .skip w' := by
          intro w
          obtain ⟨dst, op, ty, pos, after, g⟩ := o
          simp only at ho
          subst ho
          simp only [execOp, Instr.storeAt, Instr.sureAddr, er, Sem.run_bind, Sem.run_pure, Result.andThen_ok]
        have hreg := hholds.reg.2
        have key : ∀ (c' : Cont), (i.getD 0).toNat * m + j + cs.length ≤ z.2 → ContOk S c' → K .undef ⟨setE H.ents b c', H.next⟩ →
            (∀ (w' : World) (arr0' : Array Value), w'.heap[k]? = some (.cells arr0' TT fz) → arr0'.size = arr0.size → (own arr0' z).toList = (own arr0 z).toList.take ((i.getD 0).toNat * m + j) ++ ((evr x).cells.toList ++ (own arr0 z).toList.drop ((i.getD 0).toNat * m + j + (evr x).cells.toList.length)) →
              KeepF (fun k' c => ¬ (k' = k ∧ inZ z c)) w w' → HoldsE ρ H.next w' true c' b (ρ.foot b)) →
            EffOp S ρ H w evr o K := by
          intro c' hle hok hK hc'
          obtain ⟨w', arr0', r1, r2, r3, r4, r5, r6, r7, r8⟩ := store_run S.P k (z.1 + ((i.getD 0).toNat * m + j)) TT fz (evr x).cells.toList 0 arr0 w g1 (by rw [hrl]; omega) (fun y q1 q2 => by unfold FzOk at g3; rw [hrl] at q2; omega) hone
          simp only [Nat.add_zero] at r3
          have hsize0 : arr0'.size = arr0.size := by
            have := congrArg List.length r3
            simp only [List.length_append, List.length_take, List.length_drop, Array.length_toList] at this
            rw [Array.length_toList] at hrl
            omega
          have r3' := own_splice (z := z) (by rw [hrl]; omega) g2 r3
          have hkept : Kept (fun k' c => ¬ (k' = k ∧ inZ z c)) w w' := Kept.one g1 r2 hsize0 (fun _ => by unfold FzOk at g3 ⊢; rw [hsize0]; exact g3) (by omega) (fun c hc => by
            have hcz : c < z.1 + ((i.getD 0).toNat * m + j) ∨ z.1 + ((i.getD 0).toNat * m + j) + (evr x).cells.toList.length ≤ c := by
              unfold inZ at hc; rw [hrl]; omega
            rw [← Array.getElem?_toList, ← Array.getElem?_toList, r3]
            have l1 : (arr0.toList.take (z.1 + ((i.getD 0).toNat * m + j))).length = z.1 + ((i.getD 0).toNat * m + j) := by simp; omega
            rcases hcz with q | q
            · rw [List.getElem?_append_left (by omega), List.getElem?_take, if_pos q]
            · rw [List.getElem?_append_right (by omega), List.getElem?_append_right (by omega), List.getElem?_drop, l1]
              congr 1; omega) r4
          have hout : ∀ k' c, ¬ (fun k' c => ¬ (k' = k ∧ inZ z c)) k' c → ρ.foot b k' c := fun k' c q => by
            have q := Classical.not_not.1 q
            exact hreg k' c ⟨z, by rw [q.1]; exact hb, q.2⟩
          refine ⟨.undef, .skip, _, ρ, w', ?_, hK, ⟨.nilIface, .inr ⟨rfl, rfl⟩⟩, trivial, hH.update hg rfl hok hout hkept (hc' w' arr0' r2 hsize0 r3' hkept.cells) (by omega) r6 r7 r8⟩
          · rw [hrun0]
            have hcs : (evr x).cells.size = szA S T := by rw [← hsz, ← hrl]; simp
            have hsr := run_size (S := S) (T := T) (by omega) w
            simp only [storeVar, Sem.run_bind, hsr, Result.andThen_ok, hcs]
            rw [if_neg (by simp)]
            simp only [Sem.run_bind, Sem.run_pure, Result.andThen_ok, r1]
        have rawcase : ∀ vs : List AV, c = .raw vs → (i.getD 0).toNat * m + j + cs.length ≤ vs.length → K .undef ⟨setE H.ents b (.raw (putL vs ((i.getD 0).toNat * m + j) cs)), H.next⟩ → EffOp S ρ H w evr o K := by
          rintro vs rfl hle hK
          have hll := hholds.raw
          have hlie := hll.1
          simp only [Lies, hb] at hlie
          obtain ⟨arr1, T1, fz1, e1, e2, e3, q1, q2, q3⟩ := hlie
          rw [g1] at e1
          simp at e1
          obtain ⟨rfl, rfl, rfl⟩ := e1
          refine key (.raw (putL vs ((i.getD 0).toNat * m + j) cs)) (by omega) trivial hK fun w' arr' r2 e2 e1 hk => ⟨?_, hll.2⟩
          have hpl : (putL vs ((i.getD 0).toNat * m + j) cs).length = vs.length := by simp [putL]; omega
          simp only [Lies, hb]
          refine ⟨arr', _, _, r2, by omega, fun _ => by unfold FzOk at g3 ⊢; rw [e2]; exact g3, by rw [hpl, own_size (by omega)]; omega, ?_, lts_append (lts_take _ q3) (lts_append hl (lts_drop _ q3))⟩
          have := putL_rel (off := (i.getD 0).toNat * m + j) q2 hr
          rw [hpl, e1]
          have e3 := take_splice (own arr0 z).toList (evr x).cells.toList (p := (i.getD 0).toNat * m + j) (n := vs.length) (by rw [hrl]; omega) (by simp; omega)
          rw [e3]; exact this
        have arrcase : ∀ {α : Type} (E : Enc α) (xs : List α) (y : α), c = .arr E xs → (i.getD 0).toNat * m = (i.getD 0).toNat * E.m → (i.getD 0).toNat < xs.length → E.put (xs.getD (i.getD 0).toNat E.d) j cs = some y →
            K .undef ⟨setE H.ents b (.arr E (xs.set (i.getD 0).toNat y)), H.next⟩ → EffOp S ρ H w evr o K := by
          rintro α E xs y rfl hm hlt' hput hK
          have hl := hholds.arr
          have hlie := hl.1
          simp only [Lies, hb] at hlie
          obtain ⟨arr1, T1, fz1, e1, e2, e3, g4⟩ := hlie
          rw [g1] at e1
          simp at e1
          obtain ⟨rfl, rfl, rfl⟩ := e1
          obtain ⟨T', hE⟩ := hH.enc _ hmem
          obtain ⟨p1, _⟩ := hE.put _ _ _ _ hput
          have : ((i.getD 0).toNat + 1) * E.m ≤ xs.length * E.m := Nat.mul_le_mul_right _ (by omega)
          rw [Nat.add_mul, Nat.one_mul] at this
          have := g4.1
          refine key (.arr E (xs.set (i.getD 0).toNat y)) (by rw [hm]; omega) ⟨T', hE⟩ hK fun w' arr' r2 e2 e1 hk => ⟨?_, hl.2⟩
          rw [hm] at e1
          simp only [Lies, hb]
          exact ⟨arr', _, _, r2, by omega, fun _ => by unfold FzOk at g3 ⊢; rw [e2]; exact g3, elems_set hE g4 hlt' hput hr e1 (by rw [own_size (by omega), hsz2]) b⟩
        split at h
        · rename_i vs
          split at h
          · split at h
            · rename_i hle
              have h := setH_out h
              exact rawcase vs rfl (by simpa using Nat.le_of_ble_eq_true hle) (by simpa using h)
            · exact h.elim
          · rename_i n
            split at h
            · rename_i hle
              have h := setH_out h
              exact rawcase vs rfl (Nat.le_of_ble_eq_true hle) h
            · exact h.elim
          · exact h.elim
        · rename_i α E xs
          split at h
          · obtain ⟨hp, h⟩ := h
            split at h
            · rename_i y hy
              have h := setH_out h
              exact arrcase E xs y rfl (by simp) (by simpa using hp) hy h
            · exact h.elim
          · rename_i i0
            split at h
            · rename_i hm
              have hm := Nat.eq_of_beq_eq_true hm
              obtain ⟨⟨h0, hp⟩, h⟩ := h
              split at h
              · rename_i y hy
                have h := setH_out h
                exact arrcase E xs y rfl (by rw [hm]) (by simp; omega) hy h
              · exact h.elim
            · exact h.elim
        · rename_i α m' d g s f xs o
          split at h
          · exact h.elim
          · rename_i i0
            split at h
            · exact h.elim
            · rename_i hm
              have hm := Nat.eq_of_beq_eq_true hm
              subst hm
              have hok := hH.enc _ hmem
              have hblt := (hH.key _ hmem).1
              obtain ⟨n, rfl⟩ := Int.eq_ofNat_of_zero_le (show 0 ≤ i0 from hi)
              have hkeyreg : ∀ k' c, ¬ (fun k' c => ¬ (k' = k ∧ inZ z c)) k' c → regF (ρ b) k' c := fun k' c q => by
                have q := Classical.not_not.1 q
                exact ⟨z, by rw [q.1]; exact hb, q.2⟩
              obtain ⟨⟨ρ1, o1, o2⟩, o3⟩ := hholds
              have hb1 : ρ1 b = some (k, z) := by rw [o1 b (not_under_self b)]; exact hb
              have hlie := o2.1.1
              simp only [Lies, hb1] at hlie
              obtain ⟨arr1, T1, fz1, e1, e2, e3, htot, _⟩ := hlie
              rw [g1] at e1
              simp at e1
              obtain ⟨rfl, rfl, rfl⟩ := e1
              rw [hsz2] at htot
              have hholds := hH.holds _ hmem
              split at h
              · rename_i p
                split at h
                rename_i i1 cs0
                obtain ⟨rfl, h⟩ := h
                split at h
                · rename_i hle
                  have hle := Nat.le_of_ble_eq_true hle
                  have h := setH_out h
                  obtain ⟨p1, p2, p3, p4, k', z', arr2, T2, fz2, p5, p6, p7⟩ := o3
                  simp only at p1 p2 p3 p4 p5 p6 p7
                  rw [hb] at p5
                  obtain ⟨rfl, rfl⟩ : k' = k ∧ z' = z := by simpa [eq_comm] using p5
                  rw [g1] at p6
                  simp at p6
                  obtain ⟨rfl, rfl, rfl⟩ := p6
                  simp only [Int.toNat_natCast] at p7
                  have hfit : n * m + m ≤ z'.2 := by
                    have : (n + 1) * m ≤ totalN (some ((n : Int), cs0)) xs.length * m := Nat.mul_le_mul_right _ (by simp only [totalN, Int.toNat_natCast]; omega)
                    rw [Nat.add_mul, Nat.one_mul] at this; omega
                  refine key (.nest m d g s f xs (some ((n : Int), putL cs0 j cs))) (by simp only [Option.getD_some, Int.toNat_natCast]; omega) hok h fun w' arr' r2 e2 e1 hk => ?_
                  simp only [Option.getD_some, Int.toNat_natCast] at e1
                  refine nest_write hholds hok hblt hb g1 r2 e2 (by unfold FzOk at g3 ⊢; rw [e2]; exact g3) hkeyreg hk (i := n) (j := j) (by omega) (by rw [hrl]; omega) hfit e1 (by simp [putL]; omega) ?_ (lts_append (lts_take _ p4) (lts_append hl (lts_drop _ p4))) (fun i' _ q => q) htot
                  rw [e1, splice_in (by rw [hrl]; omega) (by rw [Array.length_toList, hsz2]; exact hfit)]
                  exact putL_rel (off := j) p7 hr
                · exact h.elim
              · split at h
                · split at h
                  · rename_i hcl
                    have hcl := Nat.eq_of_beq_eq_true hcl
                    obtain ⟨⟨_, hlt'⟩, h⟩ := h
                    have h := setH_out h
                    have hfit : n * m + m ≤ z.2 := by
                      have : (n + 1) * m ≤ totalN none xs.length * m := Nat.mul_le_mul_right _ (by simp only [totalN]; omega)
                      rw [Nat.add_mul, Nat.one_mul] at this; omega
                    refine key (.nest m d g s f xs (some ((n : Int), cs))) (by simp only [Option.getD_some, Int.toNat_natCast]; omega) hok h fun w' arr' r2 e2 e1 hk => ?_
                    simp only [Option.getD_some, Int.toNat_natCast] at e1
                    refine nest_write hholds hok hblt hb g1 r2 e2 (by unfold FzOk at g3 ⊢; rw [e2]; exact g3) hkeyreg hk (i := n) (j := 0) (by omega) (by rw [hrl]; omega) hfit e1 hcl ?_ hl (fun i' _ _ => trivial) htot
                    rw [e1, splice_in (by rw [hrl]; omega) (by rw [Array.length_toList, hsz2]; exact hfit)]
                    have e4 : ((((own arr0 z).toList.drop (n * m)).take m).take 0 ++ ((evr x).cells.toList ++ (((own arr0 z).toList.drop (n * m)).take m).drop (0 + (evr x).cells.toList.length))) = (evr x).cells.toList := by
                      rw [List.take_zero, List.nil_append, List.drop_of_length_le (by simp only [List.length_take, List.length_drop, Array.length_toList, hsz2] at *; omega), List.append_nil]
                    rw [e4]; exact hr
                  · exact h.elim
                · exact h.elim
      · exact h.elim
    · exact h.elim
  · exact h.elim
end
end Go.Vm

namespace Go.Vm
open Go.RowKit
section
variable (S : Seat)
def srcA (T : TypeId) {α : Type} (E : Enc α) (x : AV) (H : Heap) (K : List α → Prop) : Prop :=
  match S.P.underlying T with
  | some (.slice _) => elemsA E H.ents x K
  | some .string => match x with
    | .str t => ∃ ys, (E.m = 1 ∧ t.map (fun n => [AV.int .u8 n]) = ys.map E.cells) ∧ K ys
    | _ => False
  | _ => False
def srcZ (U : TypeId) {α : Type} (E : Enc α) (x : AV) (H : Heap) (K : List α → Prop) : Prop :=
  match S.P.underlying U with
  | some (.int _) => match x with
    | .int .i64 n => (0 ≤ n ∧ n ≤ 140737488355328) ∧ K (List.replicate n.toNat E.d)
    | _ => False
  | _ => srcA S U E x H K
def appendK {α : Type} (E : Enc α) (e : TypeId) (xs ys : List α) (H : Heap) (K : AV → Heap → Prop) : Prop :=
  natK (bytesA S e) fun B => (((xs.length + ys.length : Nat) : Int) * (B : Int) ≤ 140737488355328 ∧ ((xs.length + ys.length : Nat) : Int) ≤ 140737488355328) ∧
  pushK H (.arr E (xs ++ ys)) fun n H => natK E.m fun m => K (.sl (.loc n) m none ((xs.length + ys.length : Nat) : Int)) H
def appendNK (e : TypeId) {α : Type} (m : Nat) (d : α) (g : (Nat → Blk) → α → List AV) (s : List Nat) (f : α → Nat → Cont) (xs : List α) (cs : List AV) (H : Heap) (K : AV → Heap → Prop) : Prop :=
  natK (bytesA S e) fun B => (((xs.length + 1 : Nat) : Int) * (B : Int) ≤ 140737488355328 ∧ ((xs.length + 1 : Nat) : Int) ≤ 140737488355328) ∧
  pushK H (.nest m d g s f xs (some ((xs.length : Int), cs))) fun n H => natK m fun m => K (.sl (.loc n) m none ((xs.length + 1 : Nat) : Int)) H
def oneA (U : TypeId) (m : Nat) (x : AV) (H : Heap) (K : List AV → Prop) : Prop :=
  match S.P.underlying U with
  | some (.slice _) => match x with
    | .sl b m' none n => match getE H.ents b with
      | some ⟨_, _, c⟩ => match c with
        | .raw cs => match Nat.beq cs.length m, Nat.beq m' m, flatL cs with
          | true, true, true => n = 1 ∧ K cs
          | _, _, _ => False
        | _ => False
      | none => False
    | _ => False
  | _ => False
def appendA (T U : TypeId) (s x : AV) (H : Heap) (K : AV → Heap → Prop) : Prop :=
  match S.P.underlying T with
  | some (.slice e) => match S.hint e with
    | some ⟨_, E⟩ => srcZ S U E x H fun ys => match s with
      | .nils => appendK S E e [] ys H K
      | .sl b m i n => match getE H.ents b with
        | some ⟨_, true, c⟩ => match i with
          | none => ∃ xs, (c = .arr E xs ∧ m = E.m ∧ n = xs.length) ∧ match H with
            | ⟨l0, nx⟩ => delK l0 b fun l => appendK S E e xs ys ⟨l, nx⟩ K
          | some i => ∃ xs, (c = .arr E xs ∧ m = E.m ∧ i = 0 ∧ 0 ≤ n ∧ n ≤ xs.length) ∧ match H with
            | ⟨l0, nx⟩ => delK l0 b fun l => appendK S E e (xs.take n.toNat) ys ⟨l, nx⟩ K
        | _ => False
      | _ => False
    | none => match S.nest e with
      | some ⟨_, m, d, g, sl, f⟩ => oneA S U m x H fun cs => match s with
        | .nils => appendNK S e m d g sl f [] cs H K
        | .sl (.loc nb) m' none n => match getE H.ents (.loc nb) with
          | some ⟨_, true, c⟩ => ∃ xs, (c = .nest m d g sl f xs none ∧ m' = m ∧ n = xs.length) ∧ match H with
            | ⟨l0, nx⟩ => delK l0 (.loc nb) fun l => appendNK S e m d g sl f xs cs ⟨l, nx⟩ K
          | _ => False
        | _ => False
      | none => False
  | _ => False
inductive Roads (a b : Prop) : Prop
  | one (h : a)
  | two (h : b)
def appendB (T U : TypeId) (s x : AV) (H : Heap) (K : AV → Heap → Prop) : Prop :=
  match S.P.underlying T with
  | some (.slice e) => match S.hint e with
    | some ⟨_, E⟩ => srcZ S U E x H fun ys => match s with
      | .sl b m none n => match getE H.ents b with
        | some ⟨_, true, c⟩ => ∃ xs, (c = .arr E xs ∧ m = E.m ∧ n = xs.length) ∧
          appendK S E e xs ys H K ∧ setH H b (.arr E (xs ++ ys)) fun H => natK E.m fun m => K (.sl b m none ((xs.length + ys.length : Nat) : Int)) H
        | _ => False
      | _ => False
    | none => False
  | _ => False
def over {α : Type} (xs : List α) (i : Nat) (ys : List α) : List α := xs.take i ++ (ys ++ xs.drop (i + ys.length))
def copyA (T U : TypeId) (s x : AV) (H : Heap) (K : AV → Heap → Prop) : Prop :=
  match S.P.underlying T with
  | some (.slice e) => match S.hint e with
    | some ⟨_, E⟩ => srcA S U E x H fun ys => match s with
      | .nils => K (.int .i64 0) H
      | .sl b m i n => match getE H.ents b with
        | some ⟨_, true, c⟩ => ∃ xs, (c = .arr E xs ∧ m = E.m) ∧ match i with
          | none => (0 ≤ n ∧ n ≤ xs.length) ∧ setH H b (.arr E (over xs 0 (ys.take n.toNat))) fun H => K (.int .i64 (min (ys.length : Int) n)) H
          | some i => (0 ≤ i ∧ 0 ≤ n ∧ i + n ≤ xs.length) ∧ setH H b (.arr E (over xs i.toNat (ys.take n.toNat))) fun H => K (.int .i64 (min (ys.length : Int) n)) H
        | _ => False
      | _ => False
    | none => False
  | _ => False
end
section
variable {S : Seat} {ρ : Loc} {H : Heap} {w w' : World} {N N' : Nat}
theorem delE_mem : ∀ {l : List Ent} {b : Blk} {e : Ent}, getE l b = some e → l.Pairwise (fun e e' => e.b ≠ e'.b) → ∀ x ∈ delE l b, x ∈ l ∧ x.b ≠ b
  | [], _, _, h, _, x, hx => by simp [getE] at h
  | a :: r, b, e, h, hp, x, hx => by
    unfold getE at h
    unfold delE at hx
    rw [List.pairwise_cons] at hp
    split at h
    · rename_i q
      rw [q] at hx
      have hb := Blk.beq_eq q
      exact ⟨List.mem_cons_of_mem _ hx, fun e' => hp.1 x hx (by rw [hb, e'])⟩
    · rename_i q
      rw [q] at hx
      simp only [List.mem_cons] at hx
      rcases hx with rfl | hx
      · refine ⟨List.mem_cons_self, fun e' => ?_⟩
        obtain ⟨h1, h2⟩ := getE_mem h
        exact hp.1 e h1 (by rw [e', h2])
      · have := delE_mem h hp.2 x hx
        exact ⟨List.mem_cons_of_mem _ this.1, this.2⟩
theorem HRel.move {ρ : Lay} (h : HRel S ρ H w) {b : Blk} {e : Ent} {c : Cont} {P : Foot} (he : getE H.ents b = some e) (hrw : e.rw = true)
    (hok : ContOk S c) (hP : ∀ k c, ¬ P k c → ρ.foot b k c) (hw : Kept P w w') (hs : w.heap.size ≤ w'.heap.size) (hh : HoldsE (ρ.set H.next (ρ b) (ρ.foot b)) (H.next + 1) w' true c (.loc H.next) (ρ.foot b))
    (ho : w'.os = w.os) (ht : w'.tape = w.tape) (hout : w'.output = w.output) : After S ρ H w (ρ.set H.next (ρ b) (ρ.foot b)) ⟨⟨.loc H.next, true, c⟩ :: delE H.ents b, H.next + 1⟩ w' := by
  obtain ⟨hm, hkey⟩ := getE_mem he
  have ha := Lay.set_agree ρ H.next (ρ b) (ρ.foot b)
  have hmem := delE_mem he h.keys
  refine ⟨by simp, ha, h.add (delE_sub _ _) hok hs hh (fun x hx => ?_) (fun x hx _ => ?_) (fun k c q => ?_), hs, hw.mono ?_, ?_, ho, ht, hout⟩
  · obtain ⟨q1, q2⟩ := hmem x hx
    exact h.rest hm hkey hrw hP hw ha (by simp) q1 q2
  · obtain ⟨q1, q2⟩ := hmem x hx
    have := h.sep e hm x q1 (.inl hrw) (by rw [hkey]; exact Ne.symm q2)
    rw [hkey] at this
    exact this
  · exact Nat.lt_of_lt_of_le (h.low e hm k c (by rw [hkey]; exact q)) hs
  · intro k c' q
    exact Classical.byContradiction fun p => q ⟨e, hm, hrw, by rw [hkey]; exact hP k c' p⟩
  · rintro k c' ⟨x, hx, hxr, q⟩
    right
    rcases List.mem_cons.1 hx with rfl | hx
    · simp only at q; rw [Lay.set_foot] at q
      exact ⟨e, hm, hrw, by rw [hkey]; exact q⟩
    · obtain ⟨q1, q2⟩ := hmem x hx
      rw [Lay.set_old _ _ _ (h.key x q1).1] at q
      exact ⟨x, q1, hxr, q⟩
theorem HRel.nothing {ρ : Lay} (h : HRel S ρ H w) {c : Cont} (hc : c.empty) (hcl : c.closed) (hok : ContOk S c) : After S ρ H w (ρ.set H.next none fun _ _ => False) ⟨⟨.loc H.next, true, c⟩ :: H.ents, H.next + 1⟩ w := by
  have ha := Lay.set_agree ρ H.next none fun _ _ => False
  refine ⟨by simp, ha, h.add (List.Sublist.refl _) hok (Nat.le_refl _) ((holds_nothing (Lay.set_self _ _ _ _) hc).toE hcl) (fun x hx => ?_) (fun x hx _ k c' q => q.elim) (fun k c' q => q.elim), Nat.le_refl _, .refl _ _, ?_, rfl, rfl, rfl⟩
  · exact (h.holds x hx).turn (h.enc x hx) (h.key x hx).1 ha (by simp) (.refl _ _)
  · rintro k c' ⟨x, hx, hxr, q⟩
    rcases List.mem_cons.1 hx with rfl | hx
    · simp only at q; rw [Lay.set_foot] at q; exact q.elim
    · rw [Lay.set_old _ _ _ (h.key x hx).1] at q
      exact .inr ⟨x, hx, hxr, q⟩
def Vals (ρ : Loc) (N : Nat) {α : Type} (E : Enc α) (ys : List α) (rs : List Value) : Prop :=
  rs.length = ys.length * E.m ∧ ∀ t, t < ys.length → VRels ρ (E.cells (ys.getD t E.d)) ((rs.drop (t * E.m)).take E.m)
theorem Vals.take {α : Type} {E : Enc α} {ys : List α} {rs : List Value} (h : Vals ρ N E ys rs) (n : Nat) : Vals ρ N E (ys.take n) (rs.take (n * E.m)) := by
  refine ⟨by rw [List.length_take, List.length_take, h.1, Nat.mul_min_mul_right], fun t ht => ?_⟩
  simp only [List.length_take] at ht
  have e1 : (ys.take n).getD t E.d = ys.getD t E.d := by simp only [List.getD_eq_getElem?_getD, List.getElem?_take]; rw [if_pos (by omega)]
  have e2 : ((rs.take (n * E.m)).drop (t * E.m)).take E.m = (rs.drop (t * E.m)).take E.m := by
    have : (t + 1) * E.m ≤ n * E.m := Nat.mul_le_mul_right _ (by omega)
    rw [Nat.add_mul, Nat.one_mul] at this
    rw [List.drop_take, List.take_take, Nat.min_eq_left (by omega)]
  rw [e1, e2]
  exact h.2 t (by omega)
theorem Vals.one {T : TypeId} {α : Type} {E : Enc α} (hE : EncOk S.P T E) {ys : List α} {rs : List Value} (h : Vals ρ N E ys rs) : ∀ v ∈ rs, v.oneCell' = true := by
  intro v hv
  obtain ⟨i, hi, rfl⟩ := List.getElem_of_mem hv
  have hlt : i / E.m < ys.length := by rw [Nat.div_lt_iff_lt_mul hE.pos, ← h.1]; exact hi
  refine flatL_one (hE.flat _) (h.2 _ hlt) _ ?_
  have hmod := Nat.mod_lt i hE.pos
  have hdiv := Nat.div_add_mod i E.m
  rw [Nat.mul_comm] at hdiv
  refine List.mem_of_getElem? (i := i % E.m) ?_
  rw [List.getElem?_take, if_pos hmod, List.getElem?_drop, hdiv, List.getElem?_eq_getElem hi]
theorem vals_of_at {T : TypeId} {α : Type} {E : Enc α} (hE : EncOk S.P T E) {ys : List α} {a : Option Addr} (h : ElemsAt ρ N w E ys a) :
    ∃ rs, Vals ρ N E ys rs ∧ ∀ (P : Program) (n cap : Nat) (w0 : World), w0.heap = w.heap → n ≤ ys.length → (Builtin.firstCells E.m n (.slice a ys.length cap)).run P w0 = .ok (rs.take (n * E.m)).toArray w0 := by
  cases hy : ys with
  | nil =>
    refine ⟨[], ⟨by simp, fun t ht => by simp at ht⟩, fun P n cap w0 _ hn => ?_⟩
    have hn : n = 0 := by simpa using hn
    subst hn
    cases a with
    | none => simp [Builtin.firstCells]
    | some a => simp [Builtin.firstCells, loadCells, loadCellsFrom]
  | cons y ys' =>
    obtain ⟨k, off, rfl, hc⟩ := h (by rw [hy]; simp)
    rw [← hy]
    refine ⟨(List.range (ys.length * E.m)).map fun q => (w.cell? ⟨k, off + q, none⟩).getD undef, ⟨by simp, fun t ht => ?_⟩, fun P n cap w0 hw hn => ?_⟩
    · obtain ⟨rs, r1, _, r3⟩ := hc t ht
      have hrl := r1.length
      rw [hE.len] at hrl
      have e : ((((List.range (ys.length * E.m)).map fun q => (w.cell? ⟨k, off + q, none⟩).getD undef).drop (t * E.m)).take E.m) = rs := by
        have : (t + 1) * E.m ≤ ys.length * E.m := Nat.mul_le_mul_right _ (by omega)
        rw [Nat.add_mul, Nat.one_mul] at this
        apply List.ext_getElem
        · simp; omega
        · intro i h1 h2
          have := r3 i _ (List.getElem?_eq_getElem h2)
          simp only [List.getElem_take, List.getElem_drop, List.getElem_map, List.getElem_range]
          rw [← Nat.add_assoc, this]; rfl
      rw [e]; exact r1
    · have hcell : ∀ q, q < ys.length * E.m → w0.cell? ⟨k, off + q, none⟩ = some ((w.cell? ⟨k, off + q, none⟩).getD undef) := by
        intro q hq
        have hlt : q / E.m < ys.length := by rw [Nat.div_lt_iff_lt_mul hE.pos]; exact hq
        obtain ⟨rs, r1, _, r3⟩ := hc _ hlt
        have hrl := r1.length
        rw [hE.len] at hrl
        have hmod := Nat.mod_lt q hE.pos
        have hdiv := Nat.div_add_mod q E.m
        rw [Nat.mul_comm] at hdiv
        have := r3 (q % E.m) _ (List.getElem?_eq_getElem (by omega))
        rw [Nat.add_assoc, hdiv] at this
        rw [this]
        have e : w0.cell? ⟨k, off + q, none⟩ = w.cell? ⟨k, off + q, none⟩ := by simp only [World.cell?, hw]
        rw [e, this]; rfl
      have hle : n * E.m ≤ ys.length * E.m := Nat.mul_le_mul_right _ hn
      have := run_loadCells (P := P) w0 ⟨k, off, none⟩ (n * E.m) (fun q => (w.cell? ⟨k, off + q, none⟩).getD undef) (fun j hj => by
        simp only [Addr.add]
        split
        · rename_i q; subst q; simpa using hcell 0 (by omega)
        · exact hcell j (by omega))
      simp only [Builtin.firstCells, this]
      congr 2
      rw [← List.map_take, List.take_range, Nat.min_eq_left hle]
theorem src_sound {ρ : Lay} {e T : TypeId} {α : Type} {E : Enc α} (hE : EncOk S.P e E) {x : AV} {r : Value} {K : List α → Prop} (hH : HRel S ρ H w) (h : srcA S T E x H K) (hx : VRel ρ x r) :
    ∃ ys rs, K ys ∧ Vals ρ N E ys rs ∧ ((∃ el, S.P.underlying T = some (.slice el)) ∨ S.P.underlying T = some .string) ∧ (∀ w0 : World, (Builtin.lenOf r).run S.P w0 = .ok ys.length w0) ∧ (ys.length ≤ 9223372036854775807) ∧
      ∀ (n : Nat) (w0 : World), w0.heap = w.heap → n ≤ ys.length → (Builtin.firstCells E.m n r).run S.P w0 = .ok (rs.take (n * E.m)).toArray w0 := by
  unfold srcA at h
  split at h
  · rename_i el hT
    obtain ⟨ys, a, cap, hK, er, hle, hcap, hat⟩ := elems_sound hH h hx
    obtain ⟨rs, h1, h2⟩ := vals_of_at (N := H.next) hE hat
    have h1 : Vals ρ N E ys rs := ⟨h1.1, h1.2⟩
    exact ⟨ys, rs, hK, h1, .inl ⟨_, hT⟩, fun w0 => by rw [er]; rfl, by omega, fun n w0 hw hn => by rw [er]; exact h2 S.P n cap w0 hw hn⟩
  · rename_i hT
    split at h
    · rename_i t
      obtain ⟨ys, ⟨hm, hys⟩, hK⟩ := h
      obtain ⟨a, er, rfl, hb⟩ := hx
      have hlen : ys.length = a.size := by have := congrArg List.length hys; simpa [bytesL_length] using this.symm
      have hd : (a.data.map fun b => Value.int .u8 b.toNat).toList = (bytesL a).map (Value.int .u8) := by simp [bytesL, Function.comp_def]
      refine ⟨ys, (bytesL a).map (Value.int .u8), hK, ⟨by simp [hm, hlen, bytesL_length], fun j hj => ?_⟩, .inr hT, fun w0 => by rw [er, hlen]; rfl, by omega, fun n w0 _ hn => ?_⟩
      · have hj' : j < (bytesL a).length := by rw [bytesL_length]; omega
        have e1 : E.cells (ys.getD j E.d) = [.int .u8 ((bytesL a)[j])] := by
          have := congrArg (fun l => l[j]?) hys
          simp only [List.getElem?_map, List.getElem?_eq_getElem hj, List.getElem?_eq_getElem hj', Option.map_some, Option.some.injEq] at this
          rw [List.getD_eq_getElem?_getD, List.getElem?_eq_getElem hj, Option.getD_some, ← this]
        have e2 : ((((bytesL a).map (Value.int .u8)).drop (j * E.m)).take E.m) = [Value.int .u8 ((bytesL a)[j])] := by
          rw [hm, Nat.mul_one, List.drop_eq_getElem_cons (by simpa using hj')]
          simp
        rw [e1, e2]
        exact ⟨_, _, rfl, rfl, rfl⟩
      · rw [er, hm, Nat.mul_one]
        simp only [Builtin.firstCells, Sem.run_pure]
        congr 1
        rw [← Array.toList_inj]
        have e3 : ((a.extract 0 n).data.map fun b => Value.int .u8 b.toNat).toList = (bytesL (a.extract 0 n)).map (Value.int .u8) := by simp [bytesL, Function.comp_def]
        rw [e3, bytesL_extract]
        simp
    · exact h.elim
  · exact h.elim
theorem Vals.lie {T : TypeId} {α : Type} {E : Enc α} (hE : EncOk S.P T E) {ys : List α} {rs rest : List Value} (h : Vals ρ N E ys rs) {arr : Array Value} (ha : arr.toList = rs ++ rest) (b : Blk) : CellsLie ρ N arr b (.arr E ys) := by
  have hl := congrArg List.length ha
  simp only [Array.length_toList, List.length_append, h.1] at hl
  refine ⟨by omega, fun t ht => ⟨?_, hE.plain _ _⟩⟩
  show VRels ρ (E.cells (ys.getD t E.d)) _
  have : (t + 1) * E.m ≤ ys.length * E.m := Nat.mul_le_mul_right _ (by omega)
  rw [Nat.add_mul, Nat.one_mul] at this
  have hr := h.1
  rw [ha, List.drop_append_of_le_length (by omega), List.take_append_of_le_length (by rw [List.length_drop]; omega)]
  exact h.2 t ht
theorem lie_vals {T : TypeId} {α : Type} {E : Enc α} (hE : EncOk S.P T E) {ys : List α} {arr : Array Value} {b : Blk} (h : CellsLie ρ N arr b (.arr E ys)) : Vals ρ N E ys (arr.toList.take (ys.length * E.m)) := by
  obtain ⟨h1, h2⟩ := h
  refine ⟨by simp; omega, fun t ht => ?_⟩
  have : (t + 1) * E.m ≤ ys.length * E.m := Nat.mul_le_mul_right _ (by omega)
  rw [Nat.add_mul, Nat.one_mul] at this
  rw [List.drop_take, List.take_take, Nat.min_eq_left (by omega)]
  exact (h2 t ht).1
theorem Vals.append {T : TypeId} {α : Type} {E : Enc α} (hE : EncOk S.P T E) {xs ys : List α} {rs ss : List Value} (h : Vals ρ N E xs rs) (k : Vals ρ N E ys ss) : Vals ρ N E (xs ++ ys) (rs ++ ss) := by
  refine ⟨by rw [List.length_append, List.length_append, h.1, k.1, Nat.add_mul], fun t ht => ?_⟩
  rw [List.length_append] at ht
  have hr := h.1
  rcases Nat.lt_or_ge t xs.length with q | q
  · have : (t + 1) * E.m ≤ xs.length * E.m := Nat.mul_le_mul_right _ (by omega)
    rw [Nat.add_mul, Nat.one_mul] at this
    rw [List.drop_append_of_le_length (by omega), List.take_append_of_le_length (by rw [List.length_drop]; omega)]
    have e : (xs ++ ys).getD t E.d = xs.getD t E.d := by simp only [List.getD_eq_getElem?_getD, List.getElem?_append_left q]
    rw [e]; exact h.2 t q
  · obtain ⟨u, rfl⟩ : ∃ u, t = xs.length + u := ⟨t - xs.length, by omega⟩
    have e : (xs ++ ys).getD (xs.length + u) E.d = ys.getD u E.d := by simp only [List.getD_eq_getElem?_getD, List.getElem?_append_right (Nat.le_add_right _ _), Nat.add_sub_cancel_left]
    rw [e, Nat.add_mul, ← hr, List.drop_append, List.drop_of_length_le (by omega), List.nil_append, Nat.add_sub_cancel_left]
    exact k.2 u (by omega)
end
end Go.Vm
