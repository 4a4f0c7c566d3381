/- An abstract machine over the loaded code: operations that read memory, and operations that make it. -/
import Derived.Test.YtfndendpfahbcaaGreatDoorVm8
import Derived.Laws.BytesString
import Derived.Laws.MakeOwn
import Derived.Lib.ConvBytes
set_option linter.unusedSimpArgs false
set_option linter.unusedVariables false
namespace Go.Vm
open Go.RowKit
section
variable {S : Seat} {ρ : Loc} {H : Heap} {w : World} {N : Nat}

theorem foldl_push (l : List Int) : ∀ (a : ByteArray), (∀ n ∈ l, 0 ≤ n ∧ n < 256) → bytesL (l.foldl (fun r n => r.push (UInt8.ofNat n.toNat)) a) = bytesL a ++ l ∧ (l.foldl (fun r n => r.push (UInt8.ofNat n.toNat)) a).size = a.size + l.length := by
  induction l with
  | nil => intro a _; simp
  | cons n l ih =>
    intro a h
    obtain ⟨h1, h2⟩ := ih (a.push (UInt8.ofNat n.toNat)) fun x hx => h x (List.mem_cons_of_mem _ hx)
    have hn := h n List.mem_cons_self
    simp only [List.foldl_cons]
    rw [h1, h2]
    refine ⟨?_, by simp; omega⟩
    have : bytesL (a.push (UInt8.ofNat n.toNat)) = bytesL a ++ [n] := by
      simp [bytesL]
      omega
    rw [this]; simp

theorem read_sound {o : Oper} {ev : Operand → AV} {evr : Operand → Value} {K : AV → Prop} (hH : HRel S ρ H w) (hev : ∀ x, VRel ρ (ev x) (evr x))
    (h : readA S o.op ev H K) : ∃ r, Got ρ H.next K r ∧ (execOp evr o).run S.P w = .ok (.value r) w := by
  obtain ⟨dst, op, ty, pos, after, g⟩ := o
  cases op with
  | load T a =>
    simp only [readA] at h
    have hx := hev a
    split at h
    · rename_i b m i j e
      rw [e] at hx
      obtain ⟨k, z, h1, h2, er⟩ := hx
      obtain ⟨c, e', hc, he, hh, _⟩ := at_sound hH h
      obtain ⟨l, rs, hl, hr, hlt, hcell⟩ := elem_sound hh.lies h1 h2 hc
      obtain ⟨r, hg, hrun⟩ := load_sound (a := ⟨k, z.1 + (i.getD 0).toNat * m, none⟩) hl hr hlt (fun j r hj => by have := hcell j r hj; rwa [← Nat.add_assoc] at this)
      exact ⟨r, hg, by simp only [execOp, Instr.loadAt, Instr.sureAddr, er, Sem.run_bind, Sem.run_pure, Result.andThen_ok, ← Nat.add_assoc, hrun]⟩
    · exact h.elim
  | convert s d x =>
    simp only [readA] at h
    have hx := hev x
    split at h
    · rename_i e hs hd
      split at h
      · rename_i he
        obtain ⟨E, ⟨hm, hcells⟩, h⟩ := h
        obtain ⟨ys, a, cap, ⟨hb, hK⟩, er, hle, hcap, hat⟩ := elems_sound hH h hx
        have hconv : ∀ b n c, (convert s d (.slice b n c)).run S.P w = (Conv.bytesToString (.slice b n c)).run S.P w := by
          intro b n c
          cases b <;> simp [convert, run_und hs, run_und hd, run_und he]
        cases ys with
        | nil =>
          refine ⟨.string .empty, ⟨_, hK, ⟨_, rfl, rfl, by decide⟩, trivial⟩, ?_⟩
          have hr : (Conv.bytesToString (.slice a 0 cap)).run S.P w = .ok (.string .empty) w := by
            cases a with
            | none => rfl
            | some a => exact run_bytesToString w a 0 cap [] (by rfl)
          have := hconv a 0 cap
          simp only [List.length_nil] at er
          simp only [execOp, er, Sem.run_bind, this, hr, Result.andThen_ok, Sem.run_pure]
        | cons y ys' =>
          obtain ⟨k, off, rfl, hc⟩ := hat (by simp)
          generalize hys : y :: ys' = ys at *
          have hld : (loadCells ⟨k, off, none⟩ ys.length).run S.P w = .ok (ys.map (Value.int .u8)).toArray w := by
            have := run_loadCells_list (P := S.P) w ⟨k, off, none⟩ (ys.map (Value.int .u8)) (fun j v hv => by
              rw [List.getElem?_map] at hv
              cases hj : ys[j]? with
              | none => rw [hj] at hv; simp at hv
              | some y =>
                rw [hj] at hv
                simp at hv
                have hlt : j < ys.length := by
                  rcases Nat.lt_or_ge j ys.length with h | h
                  · exact h
                  · rw [List.getElem?_eq_none h] at hj; simp at hj
                obtain ⟨rs, r1, _, r3⟩ := hc j hlt
                rw [List.getD_eq_getElem?_getD, hj, Option.getD_some, hcells] at r1
                obtain ⟨r, rs', rfl, r4, rfl⟩ := r1
                have := r3 0 r rfl
                rw [← hv, ← int_rel r4]
                simp only [Addr.add]
                split
                · rename_i q; subst q; simpa [hm] using this
                · simpa [hm] using this)
            simpa using this
          obtain ⟨f1, f2⟩ := foldl_push ys ByteArray.empty hb
          have hr := run_bytesToString (P := S.P) w ⟨k, off, none⟩ ys.length cap ys hld
          refine ⟨_, ⟨_, hK, ⟨_, rfl, by rw [f1]; simp [bytesL], by rw [f2]; simp; omega⟩, trivial⟩, ?_⟩
          have := hconv (some ⟨k, off, none⟩) ys.length cap
          simp only [execOp, er, Sem.run_bind, this, hr, Result.andThen_ok, Sem.run_pure]
      · exact h.elim
    · exact h.elim
  | _ => exact h.elim

/-- one block more, and nothing else turned -/
structure Grew (w w' : World) (o : Obj) : Prop where
  size : w'.heap.size = w.heap.size + 1
  old : ∀ j, j < w.heap.size → w'.heap[j]? = w.heap[j]?
  new : w'.heap[w.heap.size]? = some o
  os : w'.os = w.os
  tape : w'.tape = w.tape
  output : w'.output = w.output

theorem Grew.push (w : World) (o : Obj) (n : Nat) : Grew w { w with heap := w.heap.push o, drawn := n } o :=
  ⟨by simp, fun j hj => by simp [Array.getElem?_push]; omega, by simp, rfl, rfl, rfl⟩

/-- what is known of an operation that makes a block -/
def Makes (S : Seat) (ρ : Loc) (N : Nat) (evr : Operand → Value) (o : Oper) (c : Cont) (mk : Nat → AV) : Prop :=
  (∀ n, (mk n).lt (n + 1)) ∧ (∀ b0 b, InC c b0 b → b = b0) ∧ ContOk S c ∧
  ∀ w, ∃ w' r arr T fz, (execOp evr o).run S.P w = .ok (.value r) w' ∧ Grew w w' (.cells arr T fz) ∧ (fz.1 = fz.2 ∨ arr.size ≤ fz.1) ∧
    (∀ b, CellsLie ρ N arr b c) ∧ ∀ ρ' n, ρ' (.loc n) = some (w.heap.size, (0, arr.size)) → VRel ρ' (mk n) r

theorem zeroCells_list (z : Array Value) (n : Nat) : ((Array.range (n * z.size)).map (z[· % z.size]!)).toList = (List.replicate n z.toList).flatten := by
  by_cases hz : z.size = 0
  · have : z = #[] := Array.eq_empty_of_size_eq_zero hz
    subst this
    simp [Array.range_zero']
  · induction n with
    | zero => simp [Array.range_zero']
    | succ n ih =>
      rw [List.replicate_succ', List.flatten_append, ← ih]
      apply List.ext_getElem
      · simp [Nat.add_mul]
      · intro i h1 h2
        simp at h1
        simp only [Array.getElem_toList, Array.getElem_map, Array.getElem_range]
        rw [List.getElem_append]
        split
        · simp
        · rename_i h3
          simp at h3
          have : i % z.size = i - n * z.size := by
            have e : i = (i - n * z.size) + n * z.size := by omega
            have hlt : i - n * z.size < z.size := by rw [Nat.add_mul] at h1; omega
            rw [e, Nat.add_mul_mod_self_right, Nat.mod_eq_of_lt (by omega)]
            omega
          have hlt : i - n * z.size < z.size := by rw [Nat.add_mul] at h1; omega
          simp [this, hlt]

theorem replicate_rel {a : List AV} {b : List Value} (h : VRels ρ a b) : ∀ n, VRels ρ (List.replicate n a).flatten (List.replicate n b).flatten
  | 0 => rfl
  | n + 1 => by simpa [List.replicate_succ] using h.append (replicate_rel h n)
theorem replicate_lt {a : List AV} (h : AV.lts N a) : ∀ n, AV.lts N (List.replicate n a).flatten
  | 0 => trivial
  | n + 1 => by simpa [List.replicate_succ] using lts_append h (replicate_lt h n)

theorem parse_lie {T : TypeId} {α : Type} {E : Enc α} (hE : EncOk S.P T E) : ∀ {n : Nat} {vs : List AV} {xs : List α} {arr : List Value}, parseN E n vs = some xs → VRels ρ vs arr → vs.length = n * E.m →
    xs.length = n ∧ ∀ i, i < n → VRels ρ (E.cells (xs.getD i E.d)) ((arr.drop (i * E.m)).take E.m)
  | 0, vs, xs, arr, h, _, _ => by
    simp [parseN] at h; subst h
    exact ⟨rfl, fun i hi => by omega⟩
  | n + 1, vs, xs, arr, h, hr, hl => by
    simp only [parseN] at h
    split at h
    · rename_i x hx
      split at h
      · rename_i l hl'
        simp at h; subst h
        have hlen : vs.length = n * E.m + E.m := by rw [hl, Nat.add_mul]; simp
        obtain ⟨h1, h2⟩ := parse_lie hE hl' (hr.drop E.m) (by simp [hlen])
        refine ⟨by simp [h1], fun i hi => ?_⟩
        cases i with
        | zero => simpa using hE.parse _ _ hx ρ _ (hr.take E.m)
        | succ i =>
          have := h2 i (by omega)
          rw [List.drop_drop] at this
          simpa [Nat.add_mul, Nat.add_comm] using this
      · simp at h
    · simp at h

theorem mkCont_lie (hS : SeatOk S) {T : TypeId} {n : Nat} {vs : List AV} {arr : Array Value} (hr : VRels ρ vs arr.toList) (hl : AV.lts N vs) (hn : vs.length = n * szA S T) (b : Blk) :
    CellsLie ρ N arr b (mkCont S T n vs) ∧ (∀ b0 b, InC (mkCont S T n vs) b0 b → b = b0) ∧ ContOk S (mkCont S T n vs) := by
  have hsz : arr.size = vs.length := by rw [← hr.length]; simp
  have raw : CellsLie ρ N arr b (.raw vs) := ⟨by omega, by rw [List.take_of_length_le (by simp; omega)]; exact hr, hl⟩
  unfold mkCont
  split
  · rename_i α E hh
    split
    · rename_i l hp
      have hE : EncOk S.P T E := hS.hint _ _ hh
      have hm : szA S T = E.m := by
        have := hE.m
        unfold szA
        cases hi : S.P.info? T with
        | none => rw [hi] at this; simp at this
        | some i => rw [hi] at this; simpa using this
      rw [hm] at hn
      obtain ⟨h1, h2⟩ := parse_lie hE hp hr hn
      exact ⟨⟨by rw [h1, hsz, hn]; omega, fun i hi => ⟨h2 i (by omega), hE.plain _ _⟩⟩, fun _ _ h => h, _, hE⟩
    · exact ⟨raw, fun _ _ h => h, trivial⟩
  · exact ⟨raw, fun _ _ h => h, trivial⟩

theorem sl_fresh {ρ' : Loc} {n m k z l : Nat} {i : Int} (h : ρ' (.loc n) = some (k, (0, z))) (hi : i = l) (hl : l ≤ 9223372036854775807) (hz : l * m ≤ z) (c : Nat) (hc : l ≤ c) (hc' : c ≤ 9223372036854775807) (hz' : c * m ≤ z) :
    VRel ρ' (.sl (.loc n) m none i) (.slice (some ⟨k, 0, none⟩) l c) := by
  subst hi
  exact .inr ⟨k, (0, z), c, 0, h, by simp, by simp, by simpa using hc, hc', by simpa using hz', .inr (by simp), by simp⟩

theorem flatten_piece {zl : List Value} {m n j : Nat} (hm : zl.length = m) (hj : j < (List.replicate n zl).length) : (((List.replicate n zl).flatten.drop (j * m)).take m) = zl := by
  simp only [List.length_replicate] at hj
  induction j generalizing n with
  | zero =>
    obtain ⟨n, rfl⟩ : ∃ k, n = k + 1 := ⟨n - 1, by omega⟩
    rw [List.replicate_succ, List.flatten_cons, Nat.zero_mul, List.drop_zero, List.take_append_of_le_length (by omega), List.take_of_length_le (by omega)]
  | succ j ih =>
    obtain ⟨n, rfl⟩ : ∃ k, n = k + 1 := ⟨n - 1, by omega⟩
    have e : (j + 1) * m = m + j * m := by rw [Nat.add_mul]; omega
    rw [List.replicate_succ, List.flatten_cons, e, List.drop_append, List.drop_of_length_le (by omega), List.nil_append, hm, Nat.add_sub_cancel_left]
    exact ih (by omega)

theorem new_sound (hS : SeatOk S) {o : Oper} {ev : Operand → AV} {evr : Operand → Value} {K : Cont → (Nat → AV) → Prop} (hev : ∀ x, VRel ρ (ev x) (evr x)) (hlt : ∀ x, (ev x).lt N)
    (h : newA S o.op ev K) : ∃ c mk, K c mk ∧ Makes S ρ N evr o c mk := by
  obtain ⟨dst, op, ty, pos, after, g⟩ := o
  have lt1 : ∀ n, Blk.lt (n + 1) (.loc n) := fun n m hm => by simp [Blk.root] at hm; omega
  cases op with
  | alloc T =>
    simp only [newA] at h
    obtain ⟨i, z, hi, hz, h⟩ := zero_out h
    have h := natK_out h
    refine ⟨_, _, h, lt1, fun _ _ h => h, trivial, fun w => ⟨_, _, z.cells, T, (0, 0), ?_, Grew.push w _ w.drawn, .inl rfl, fun b => ⟨by simp, ?_, map_cst_lt _⟩, fun ρ' n hρ => ⟨_, _, hρ, by simp, rfl⟩⟩⟩
    · simp [execOp, Instr.alloc, zeroValue, typeInfo, hi, hz, newVar, newRow]
    · rw [List.take_of_length_le (by simp)]; exact map_cst_rel _
  | box T x =>
    simp only [newA] at h
    have h := natK_out h
    obtain ⟨cs, h, hr, hl⟩ := cells_rel h (hev x) (hlt x)
    split at h
    · exact h.elim
    refine ⟨_, _, h, lt1, fun _ _ h => h, trivial, fun w => ⟨_, _, (evr x).cells, T, (0, 0), ?_, Grew.push w _ w.drawn, .inl rfl, fun b => ⟨by rw [← hr.length]; simp, ?_, hl⟩, fun ρ' n hρ => ⟨_, _, hρ, by simp, rfl⟩⟩⟩
    · simp [execOp, Instr.box, newVar, newRow]
    · rw [List.take_of_length_le (by rw [← hr.length]; simp)]; exact hr
  | buildSlice T n ps =>
    simp only [newA] at h
    split at h
    · rename_i e hT
      obtain ⟨i, z, hi, hz, h⟩ := zero_out h
      have h := natK_out h
      split at h
      · rename_i hm hp hle
        have hm := Nat.eq_of_beq_eq_true hm
        have hp := Nat.le_of_ble_eq_true hp
        have hle := Nat.le_of_ble_eq_true hle
        rw [List.length_map, Array.length_toList] at hm hp hle h
        have h := forceL_out h
        have hzr : VRels ρ (List.replicate n (z.cells.toList.map cst)).flatten ((Array.range (n * z.cells.size)).map (z.cells[· % z.cells.size]!)).toList := by
          rw [zeroCells_list]; exact replicate_rel (map_cst_rel _) n
        obtain ⟨l, cells', hK, hfill, hz', hl', hlen⟩ := fill_run hev hlt (cells := (Array.range (n * z.cells.size)).map (z.cells[· % z.cells.size]!)) h hzr (replicate_lt (map_cst_lt _) n)
        have hlen' : l.length = n * szA S e := by rw [hlen, ← hm]; simp
        have hsz : cells'.size = n * z.cells.size := by have := hz'.length; simp at this; rw [this, hlen', hm]
        have hc := fun b => mkCont_lie (ρ := ρ) (N := N) hS hz' hl' hlen' b
        refine ⟨_, _, hK, lt1, (hc (.loc 0)).2.1, (hc (.loc 0)).2.2, fun w => ⟨_, _, cells', e, (0, 0), ?_, Grew.push w _ w.drawn, .inl rfl, fun b => (hc b).1, fun ρ' k hρ => sl_fresh hρ rfl (by have : n * 1 ≤ n * z.cells.size := Nat.mul_le_mul_left _ hp; omega) (by omega) n (by omega) (by have : n * 1 ≤ n * z.cells.size := Nat.mul_le_mul_left _ hp; omega) (by omega)⟩⟩
        have hsize := run_size (S := S) (T := e) (by omega) w
        have hpa : (ps.map fun (x : Nat × Operand) => (x.1, evr x.2)).toList = ps.toList.map fun p => (p.1, evr p.2) := by simp
        simp only [execOp, Instr.buildSlice, run_und hT, Sem.run_bind, Sem.run_pure, Result.andThen_ok, hsize, ← hm]
        rw [if_neg (by omega)]
        by_cases hn : n * z.cells.size = 0
        · have hn' : n = 0 := by
            rcases Nat.mul_eq_zero.1 hn with q | q
            · exact q
            · omega
          subst hn'
          have e0 : ∀ f : Nat → Value, (Array.range (0 * z.cells.size)).map f = #[] := fun f => by simp [Array.range_zero']
          rw [e0] at hfill
          simp only [if_pos hn, Sem.run_pure, Result.andThen_ok, e0, hpa, hfill]
          simp [newRow]
        · rw [if_neg hn]
          simp only [zeroValue, typeInfo, hi, hz, Sem.run_bind, Sem.run_pure, Result.andThen_ok, run_program, hpa, hfill]
          simp [newRow]
      · exact h.elim
    · exact h.elim
  | makeSlice T l c =>
    simp only [newA] at h
    split at h
    · rename_i e hT
      split at h
      · rename_i α E hh
        split at h
        · rename_i k1 l' e1
          split at h
          · rename_i k2 c' e2
            have h' := natK_out h
            clear h
            obtain ⟨⟨h0, rfl, hb0, hb⟩, h⟩ := h'
            have h := natK_out h
            have hE : EncOk S.P e E := hS.hint _ _ hh
            have hl := hev l; rw [e1] at hl
            have hc := hev c; rw [e2] at hc
            have hl := int_rel hl
            have hc := int_rel hc
            obtain ⟨z, hz, hzr⟩ := hE.zero
            have hm := hE.m
            cases hi : S.P.info? e with
            | none => rw [hi] at hm; simp at hm
            | some i =>
              rw [hi] at hm hz
              simp at hm hz
              obtain ⟨z0, hz0, rfl⟩ := hz
              have hby : bytesA S e = i.bytes := by simp [bytesA, hi]
              have hpos := hE.pos
              have hzl : z0.cells.size = E.m := by have := (hzr ρ).length; rw [hE.len] at this; simpa using this
              have hrun := fun w => run_make (P := S.P) w T e i z0 hT hi hz0 k1 k2 l' l' h0 (Int.le_refl _) (by rw [hby] at hb; rw [Int.mul_comm]; omega) (by omega)
              have hmade : (madeCells z0.cells (l'.toNat * i.size)).toList = (List.replicate l'.toNat z0.cells.toList).flatten := by
                rw [hm, ← hzl]; exact zeroCells_list _ _
              have hms : (madeCells z0.cells (l'.toNat * i.size)).size = l'.toNat * E.m := by rw [size_madeCells, hm]
              refine ⟨_, _, h, lt1, fun _ _ h => h, ⟨_, hE⟩, fun w => ⟨_, _, madeCells z0.cells (l'.toNat * i.size), e, (0, 0), ?_, Grew.push w _ w.drawn, .inl rfl, fun b => ⟨by simp [hms], fun j hj => ⟨?_, hE.plain _ _⟩⟩,
                fun ρ' k hρ => sl_fresh hρ (by omega) (by omega) (by omega) l'.toNat (Nat.le_refl _) (by omega) (by omega)⟩⟩
              · simp only [execOp, hl, hc, Sem.run_bind, hrun, Result.andThen_ok, Sem.run_pure]
                simp [World.alloc, -World.alloc_eq]
              · rw [hmade, flatten_piece (by simpa using hzl) (by simpa using hj)]
                rw [List.length_replicate] at hj
                show VRels ρ (E.cells ((List.replicate l'.toNat E.d).getD j E.d)) _
                rw [List.getD_eq_getElem?_getD, List.getElem?_replicate, if_pos hj]
                exact hzr ρ
          · exact h.elim
        · exact h.elim
      · exact h.elim
    · exact h.elim
  | convert s d x =>
    simp only [newA] at h
    split at h
    · rename_i e hs hd
      split at h
      · rename_i he
        split at h
        · rename_i α E hh
          split at h
          · rename_i t et
            obtain ⟨ys, ⟨hm, hys⟩, h⟩ := h
            have hx := hev x
            rw [et] at hx
            obtain ⟨a, er, rfl, hb⟩ := hx
            have hE : EncOk S.P e E := hS.hint _ _ hh
            have hlen : ys.length = a.size := by have := congrArg List.length hys; simpa [bytesL_length] using this.symm
            have hcap : ∀ w : World, a.size ≤ grownCap w a.size 0 e ∧ grownCap w a.size 0 e ≤ 9223372036854775807 := fun w => ⟨by simp [grownCap, Question.cut], by have := grownCap_le_maxLen w a.size 0 e (by simpa [maxLen] using hb); simpa [maxLen] using this⟩
            have hsz : ∀ w : World, (Lib.bytesCells w e a).size = grownCap w a.size 0 e := fun w => by
              have h1 := (hcap w).1
              have h2 : (Lib.bytesCells w e a).size = a.data.size + (grownCap w a.size 0 e - a.size) := by simp [Lib.bytesCells]
              have h3 : a.data.size = a.size := rfl
              omega
            refine ⟨_, _, h, lt1, fun _ _ h => h, ⟨_, hE⟩, fun w => ⟨_, _, Lib.bytesCells w e a, e, _, ?_, ⟨Lib.bytesWorld_size w e a, fun j hj => Lib.bytesWorld_at_old w e a j hj, Lib.bytesWorld_at_new w e a, ?_, ?_, ?_⟩, .inr (Nat.le_refl _), fun b => ⟨by rw [hlen, hm, hsz]; have := (hcap w).1; omega, fun j hj => ⟨?_, hE.plain _ _⟩⟩,
              fun ρ' k hρ => sl_fresh hρ (by simp [bytesL_length]) hb (by rw [hsz]; have := (hcap w).1; omega) _ (hcap w).1 (hcap w).2 (by rw [hsz]; omega)⟩⟩
            · have := Lib.run_convert_string_bytes w s d e a hs hd he
              simp only [execOp, er, Sem.run_bind, this, Result.andThen_ok, Sem.run_pure]
            · simp [Lib.bytesWorld, World.freeze, World.alloc, World.drew, -World.alloc_eq, -World.drew_eq]
            · simp [Lib.bytesWorld, World.freeze, World.alloc, World.drew, -World.alloc_eq, -World.drew_eq]
            · simp [Lib.bytesWorld, World.freeze, World.alloc, World.drew, -World.alloc_eq, -World.drew_eq]
            · have hj' : j < (bytesL a).length := by rw [bytesL_length]; omega
              have e1 : E.cells (ys.getD j E.d) = [.int .u8 ((bytesL a)[j])] := by
                have := congrArg (fun l => l[j]?) hys
                simp only [List.getElem?_map, List.getElem?_eq_getElem hj, List.getElem?_eq_getElem hj', Option.map_some, Option.some.injEq] at this
                rw [List.getD_eq_getElem?_getD, List.getElem?_eq_getElem hj, Option.getD_some, ← this]
              show VRels ρ (E.cells (ys.getD j E.d)) _
              rw [e1, hm]
              have e2 : (((Lib.bytesCells w e a).toList.drop (j * 1)).take 1) = [Value.int .u8 ((bytesL a)[j])] := by
                have hj2 : j < a.data.toList.length := by simpa [bytesL] using hj'
                have hd1 : (Lib.bytesCells w e a).toList = (bytesL a).map (Value.int .u8) ++ List.replicate (grownCap w a.size 0 e - a.size) (.int .u8 0) := by
                  simp [Lib.bytesCells, bytesL, Function.comp_def]
                rw [hd1, Nat.mul_one, List.drop_append_of_le_length (by simp; omega), List.drop_eq_getElem_cons (by simpa using hj')]
                simp
              rw [e2]
              exact ⟨_, _, rfl, rfl, rfl⟩
          · exact h.elim
        · exact h.elim
      · exact h.elim
    · exact h.elim
  | _ => exact h.elim
end
end Go.Vm
