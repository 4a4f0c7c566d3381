/- An abstract machine over the loaded code: operations that read memory, and operations that make it. -/
import Derived.Test.YtfjodggmmokaaaaGreatDAB
import Derived.Laws.BytesString
import Derived.Laws.MakeOwn
import Derived.Lib.ConvBytes
set_option linter.unusedSimpArgs false
set_option linter.unusedVariables false
set_option linter.constructorNameAsVariable false
namespace Go.Vm
open Go.RowKit
section
variable {S : Seat} {ρ : Loc} {H : Heap} {w : World} {N : Nat}
theorem foldl_push (l : List Int) : ∀ (a : ByteArray), (∀ n ∈ l, 0 ≤ n ∧ n < 256) → bytesL (l.foldl (fun r n => r.push (UInt8.ofNat n.toNat)) a) = bytesL a ++ l ∧ (l.foldl (fun r n => r.push (UInt8.ofNat n.toNat)) a).size = a.size + l.length := by
  induction l with
  | nil => intro a _; simp
  | cons n l ih =>
    intro a h
    obtain ⟨h1, h2⟩ := ih (a.push (UInt8.ofNat n.toNat)) fun x hx => h x (List.mem_cons_of_mem _ hx)
    have hn := h n List.mem_cons_self
    simp only [List.foldl_cons]
    rw [h1, h2]
    refine ⟨?_, by simp; omega⟩
    have : bytesL (a.push (UInt8.ofNat n.toNat)) = bytesL a ++ [n] := by
      simp [bytesL]
      omega
    rw [this]; simp
theorem read_sound {ρ : Lay} {o : Oper} {ev : Operand → AV} {evr : Operand → Value} {K : AV → Prop} (hH : HRel S ρ H w) (hev : ∀ x, VRel ρ (ev x) (evr x))
    (h : readA S o.op ev H K) : ∃ r, Got ρ H.next K r ∧ (execOp evr o).run S.P w = .ok (.value r) w := by
  obtain ⟨dst, op, ty, pos, after, g⟩ := o
  cases op with
  | load T a =>
    simp only [readA] at h
    have hx := hev a
    split at h
    · rename_i b m i j e
      rw [e] at hx
      obtain ⟨k, z, h1, h2, er⟩ := hx
      obtain ⟨q, c, F, e', hc, he, hh, hok, hblt, _⟩ := at_sound hH h
      obtain ⟨l, rs, hl, hr, hlt, hcell⟩ := elem_sound hh hok hblt h1 h2 hc
      obtain ⟨r, hg, hrun⟩ := load_sound (a := ⟨k, z.1 + (i.getD 0).toNat * m, none⟩) hl hr hlt (fun j r hj => by have := (hcell j r hj).1; rwa [← Nat.add_assoc] at this)
      exact ⟨r, hg, by simp only [execOp, Instr.loadAt, Instr.sureAddr, er, Sem.run_bind, Sem.run_pure, Result.andThen_ok, ← Nat.add_assoc, hrun]⟩
    · exact h.elim
  | convert s d x =>
    simp only [readA] at h
    have hx := hev x
    split at h
    · rename_i e hs hd
      split at h
      · rename_i he
        obtain ⟨E, ⟨hm, hcells⟩, h⟩ := h
        obtain ⟨ys, a, cap, ⟨hb, hK⟩, er, hle, hcap, hat⟩ := elems_sound hH h hx
        have hconv : ∀ b n c, (convert s d (.slice b n c)).run S.P w = (Conv.bytesToString (.slice b n c)).run S.P w := by
          intro b n c
          cases b <;> simp [convert, run_und hs, run_und hd, run_und he]
        cases ys with
        | nil =>
          refine ⟨.string .empty, ⟨_, hK, ⟨_, rfl, rfl, by decide⟩, trivial⟩, ?_⟩
          have hr : (Conv.bytesToString (.slice a 0 cap)).run S.P w = .ok (.string .empty) w := by
            cases a with
            | none => rfl
            | some a => exact run_bytesToString w a 0 cap [] (by rfl)
          have := hconv a 0 cap
          simp only [List.length_nil] at er
          simp only [execOp, er, Sem.run_bind, this, hr, Result.andThen_ok, Sem.run_pure]
        | cons y ys' =>
          obtain ⟨k, off, rfl, hc⟩ := hat (by simp)
          generalize hys : y :: ys' = ys at *
          have hld : (loadCells ⟨k, off, none⟩ ys.length).run S.P w = .ok (ys.map (Value.int .u8)).toArray w := by
            have := run_loadCells_list (P := S.P) w ⟨k, off, none⟩ (ys.map (Value.int .u8)) (fun j v hv => by
              rw [List.getElem?_map] at hv
              cases hj : ys[j]? with
              | none => rw [hj] at hv; simp at hv
              | some y =>
                rw [hj] at hv
                simp at hv
                have hlt : j < ys.length := by
                  rcases Nat.lt_or_ge j ys.length with h | h
                  · exact h
                  · rw [List.getElem?_eq_none h] at hj; simp at hj
                obtain ⟨rs, r1, _, r3⟩ := hc j hlt
                rw [List.getD_eq_getElem?_getD, hj, Option.getD_some, hcells] at r1
                obtain ⟨r, rs', rfl, r4, rfl⟩ := r1
                have := r3 0 r rfl
                rw [← hv, ← int_rel r4]
                simp only [Addr.add]
                split
                · rename_i q; subst q; simpa [hm] using this
                · simpa [hm] using this)
            simpa using this
          obtain ⟨f1, f2⟩ := foldl_push ys ByteArray.empty hb
          have hr := run_bytesToString (P := S.P) w ⟨k, off, none⟩ ys.length cap ys hld
          refine ⟨_, ⟨_, hK, ⟨_, rfl, by rw [f1]; simp [bytesL], by rw [f2]; simp; omega⟩, trivial⟩, ?_⟩
          have := hconv (some ⟨k, off, none⟩) ys.length cap
          simp only [execOp, er, Sem.run_bind, this, hr, Result.andThen_ok, Sem.run_pure]
      · exact h.elim
    · exact h.elim
  | _ => exact h.elim
structure Grew (w w' : World) (o : Obj) : Prop where
  size : w'.heap.size = w.heap.size + 1
  old : ∀ j, j < w.heap.size → w'.heap[j]? = w.heap[j]?
  new : w'.heap[w.heap.size]? = some o
  os : w'.os = w.os
  tape : w'.tape = w.tape
  output : w'.output = w.output
theorem Grew.push (w : World) (o : Obj) (n : Nat) : Grew w { w with heap := w.heap.push o, drawn := n } o :=
  ⟨by simp, fun j hj => by simp [Array.getElem?_push]; omega, by simp, rfl, rfl, rfl⟩
def FreshC (ρ : Loc) (N : Nat) (arr : Array Value) (c : Cont) : Prop :=
  ∀ (ρ' : Loc) (N' : Nat) (b : Blk) (w' : World) (k : Nat) (T : TypeId) (fz : Nat × Nat), Agree N ρ ρ' → N ≤ N' → ρ' b = some (k, (0, arr.size)) → w'.heap[k]? = some (.cells arr T fz) → FzOk fz arr →
    HoldsE ρ' N' w' true c b (regF (ρ' b))
theorem FreshC.raw {vs : List AV} {arr : Array Value} (h : ∀ b, CellsLie ρ N arr b (.raw vs)) : FreshC ρ N arr (.raw vs) := by
  intro ρ' N' b w' k T fz ha hN hb hw hf
  refine ⟨?_, fun _ _ q => q⟩
  simp only [Lies, hb]
  refine ⟨arr, T, fz, hw, by simp, fun _ => hf, ?_⟩
  rw [own_all]
  obtain ⟨h1, h2, h3⟩ := h b
  exact ⟨h1, h2.agree ha h3, h3.mono hN⟩
theorem FreshC.arr {α : Type} {E : Enc α} {xs : List α} {arr : Array Value} (h : ∀ b, CellsLie ρ N arr b (.arr E xs)) : FreshC ρ N arr (.arr E xs) := by
  intro ρ' N' b w' k T fz ha hN hb hw hf
  refine ⟨?_, fun _ _ q => q⟩
  simp only [Lies, hb]
  refine ⟨arr, T, fz, hw, by simp, fun _ => hf, ?_⟩
  rw [own_all]
  exact ElemsLie.agree (h b) ha hN
theorem holds_nothing {ρ : Loc} {w : World} {rw : Bool} {c : Cont} {b : Blk} {F : Foot} (hb : ρ b = none) (hc : c.empty) : Holds ρ N w rw c b F := by
  have hl : Lies ρ N w rw b c := by simp only [Lies, hb]; exact hc
  have hr : ∀ k c, regF (ρ b) k c → F k c := by rintro k c ⟨z, q, _⟩; rw [hb] at q; simp at q
  cases c with
  | raw vs => exact ⟨hl, hr⟩
  | arr E xs => exact ⟨hl, hr⟩
  | nest m d g s f xs o =>
    obtain ⟨rfl, rfl⟩ := hc
    exact ⟨⟨hl, hr⟩, fun _ _ _ _ => False, fun i hi => by simp at hi, fun i hi => by simp at hi, fun _ => ⟨fun i hi => by simp at hi, fun i hi => by simp at hi⟩⟩
open Classical in
theorem FreshC.nest {T0 : TypeId} {α : Type} {m : Nat} {d : α} {g : (Nat → Blk) → α → List AV} {s : List Nat} {f : α → Nat → Cont} {n : Nat} {arr : Array Value} (hT : NestOk S.P T0 m d g s f) (hs : n * m ≤ arr.size)
    (hz : ∀ i, i < n → ∃ z, ((S.P.info? T0).bind (·.zero)).map (·.cells.toList) = some z ∧ (arr.toList.drop (i * m)).take m = z) : FreshC ρ N arr (.nest m d g s f (List.replicate n d) none) := by
  intro ρ' N' b w' k T fz ha hN hb hw hf
  have hin : ∀ {b' : Blk}, Under b b' → mixL b (fun _ => none) ρ' b' = none := fun h => mixL_in h
  have hself : mixL b (fun _ => none) ρ' b = some (k, (0, arr.size)) := by rw [mixL_off b _ _ b (not_under_self b)]; exact hb
  refine ⟨⟨mixL b (fun _ => none) ρ', mixL_off _ _ _, ⟨?_, fun k c q => by rw [hself] at q; rw [hb]; exact q⟩, fun _ _ _ _ => False, fun i hi _ j hj => holds_nothing (hin (.inl rfl)) ?_, fun _ _ _ _ _ _ _ q => q.elim, fun _ => ⟨fun _ _ _ _ _ _ _ _ q => q, fun _ _ _ _ _ _ _ _ _ _ _ _ _ q _ => q⟩⟩, trivial⟩
  · simp only [Lies, hself]
    refine ⟨arr, T, fz, hw, by simp, fun _ => hf, ?_⟩
    rw [own_all]
    refine ⟨by simpa [totalN] using hs, fun i hi _ => ?_⟩
    have hi' : i < n := by simpa using hi
    obtain ⟨z, h1, h2⟩ := hz i hi'
    obtain ⟨z', h3, h4⟩ := hT.zero
    rw [h1] at h3
    simp at h3
    subst h3
    rw [h2]
    have hd : (List.replicate n d).getD i d = d := by simp [List.getD_eq_getElem?_getD, List.getElem?_replicate, hi']
    rw [hd]
    exact h4 _ _ fun j _ => hin (.inl rfl)
  · have hd : (List.replicate n d).getD i d = d := by
      have hi' : i < n := by simpa using hi
      simp [List.getD_eq_getElem?_getD, List.getElem?_replicate, hi']
    rw [hd]
    exact hT.nil j hj
def Makes (S : Seat) (ρ : Loc) (N : Nat) (evr : Operand → Value) (o : Oper) (c : Cont) (mk : Nat → AV) : Prop :=
  (∀ n, (mk n).lt (n + 1)) ∧ ContOk S c ∧
  ∀ w, ∃ w' r arr T fz, (execOp evr o).run S.P w = .ok (.value r) w' ∧ Grew w w' (.cells arr T fz) ∧ FzOk fz arr ∧
    FreshC ρ N arr c ∧ ∀ ρ' n, ρ' (.loc n) = some (w.heap.size, (0, arr.size)) → VRel ρ' (mk n) r
theorem zeroCells_list (z : Array Value) (n : Nat) : ((Array.range (n * z.size)).map (z[· % z.size]!)).toList = (List.replicate n z.toList).flatten := by
  by_cases hz : z.size = 0
  · have : z = #[] := Array.eq_empty_of_size_eq_zero hz
    subst this
    simp [Array.range_zero']
  · induction n with
    | zero => simp [Array.range_zero']
    | succ n ih =>
      rw [List.replicate_succ', List.flatten_append, ← ih]
      apply List.ext_getElem
      · simp [Nat.add_mul]
      · intro i h1 h2
        simp at h1
        simp only [Array.getElem_toList, Array.getElem_map, Array.getElem_range]
        rw [List.getElem_append]
        split
        · simp
        · rename_i h3
          simp at h3
          have : i % z.size = i - n * z.size := by
            have e : i = (i - n * z.size) + n * z.size := by omega
            have hlt : i - n * z.size < z.size := by rw [Nat.add_mul] at h1; omega
            rw [e, Nat.add_mul_mod_self_right, Nat.mod_eq_of_lt (by omega)]
            omega
          have hlt : i - n * z.size < z.size := by rw [Nat.add_mul] at h1; omega
          simp [this, hlt]
theorem replicate_rel {a : List AV} {b : List Value} (h : VRels ρ a b) : ∀ n, VRels ρ (List.replicate n a).flatten (List.replicate n b).flatten
  | 0 => rfl
  | n + 1 => by simpa [List.replicate_succ] using h.append (replicate_rel h n)
theorem replicate_lt {a : List AV} (h : AV.lts N a) : ∀ n, AV.lts N (List.replicate n a).flatten
  | 0 => trivial
  | n + 1 => by simpa [List.replicate_succ] using lts_append h (replicate_lt h n)
theorem parse_lie {T : TypeId} {α : Type} {E : Enc α} (hE : EncOk S.P T E) : ∀ {n : Nat} {vs : List AV} {xs : List α} {arr : List Value}, parseN E n vs = some xs → VRels ρ vs arr → vs.length = n * E.m →
    xs.length = n ∧ ∀ i, i < n → VRels ρ (E.cells (xs.getD i E.d)) ((arr.drop (i * E.m)).take E.m)
  | 0, vs, xs, arr, h, _, _ => by
    simp [parseN] at h; subst h
    exact ⟨rfl, fun i hi => by omega⟩
  | n + 1, vs, xs, arr, h, hr, hl => by
    simp only [parseN] at h
    split at h
    · rename_i x hx
      split at h
      · rename_i l hl'
        simp at h; subst h
        have hlen : vs.length = n * E.m + E.m := by rw [hl, Nat.add_mul]; simp
        obtain ⟨h1, h2⟩ := parse_lie hE hl' (hr.drop E.m) (by simp [hlen])
        refine ⟨by simp [h1], fun i hi => ?_⟩
        cases i with
        | zero => simpa using hE.parse _ _ hx ρ _ (hr.take E.m)
        | succ i =>
          have := h2 i (by omega)
          rw [List.drop_drop] at this
          simpa [Nat.add_mul, Nat.add_comm] using this
      · simp at h
    · simp at h
theorem mkCont_lie (hS : SeatOk S) {T : TypeId} {n : Nat} {vs : List AV} {arr : Array Value} (hr : VRels ρ vs arr.toList) (hl : AV.lts N vs) (hn : vs.length = n * szA S T) :
    FreshC ρ N arr (mkCont S T n vs) ∧ ContOk S (mkCont S T n vs) := by
  have hsz : arr.size = vs.length := by rw [← hr.length]; simp
  have raw : FreshC ρ N arr (.raw vs) := .raw fun b => ⟨by omega, by rw [List.take_of_length_le (by simp; omega)]; exact hr, hl⟩
  unfold mkCont
  split
  · rename_i α E hh
    split
    · rename_i l hp
      have hE : EncOk S.P T E := hS.hint _ _ hh
      have hm : szA S T = E.m := by
        have := hE.m
        unfold szA
        cases hi : S.P.info? T with
        | none => rw [hi] at this; simp at this
        | some i => rw [hi] at this; simpa using this
      rw [hm] at hn
      obtain ⟨h1, h2⟩ := parse_lie hE hp hr hn
      exact ⟨.arr fun b => ⟨by rw [h1, hsz, hn]; omega, fun i hi => ⟨h2 i (by omega), hE.plain _ _⟩⟩, _, hE⟩
    · exact ⟨raw, trivial⟩
  · split
    · split
      · rename_i α m d g s f hh
        obtain ⟨hT, hc⟩ := hS.nest _ _ hh
        exact ⟨FreshC.nest (S := S) (n := 0) hT (by simp) fun i hi => by omega, ⟨_, hT⟩, hc⟩
      · exact ⟨raw, trivial⟩
    · exact ⟨raw, trivial⟩
theorem sl_fresh {ρ' : Loc} {n m k z l : Nat} {i : Int} (h : ρ' (.loc n) = some (k, (0, z))) (hi : i = l) (hl : l ≤ 9223372036854775807) (hz : l * m ≤ z) (c : Nat) (hc : l ≤ c) (hc' : c ≤ 9223372036854775807) (hz' : c * m ≤ z) :
    VRel ρ' (.sl (.loc n) m none i) (.slice (some ⟨k, 0, none⟩) l c) := by
  subst hi
  exact .inr ⟨k, (0, z), c, 0, h, by simp, by simp, by simpa using hc, hc', by simpa using hz', .inr (by simp), by simp⟩
theorem flatten_piece {zl : List Value} {m n j : Nat} (hm : zl.length = m) (hj : j < (List.replicate n zl).length) : (((List.replicate n zl).flatten.drop (j * m)).take m) = zl := by
  simp only [List.length_replicate] at hj
  induction j generalizing n with
  | zero =>
    obtain ⟨n, rfl⟩ : ∃ k, n = k + 1 := ⟨n - 1, by omega⟩
    rw [List.replicate_succ, List.flatten_cons, Nat.zero_mul, List.drop_zero, List.take_append_of_le_length (by omega), List.take_of_length_le (by omega)]
  | succ j ih =>
    obtain ⟨n, rfl⟩ : ∃ k, n = k + 1 := ⟨n - 1, by omega⟩
    have e : (j + 1) * m = m + j * m := by rw [Nat.add_mul]; omega
    rw [List.replicate_succ, List.flatten_cons, e, List.drop_append, List.drop_of_length_le (by omega), List.nil_append, hm, Nat.add_sub_cancel_left]
    exact ih (by omega)
theorem new_sound (hS : SeatOk S) {o : Oper} {ev : Operand → AV} {evr : Operand → Value} {K : Cont → (Nat → AV) → Prop} (hev : ∀ x, VRel ρ (ev x) (evr x)) (hlt : ∀ x, (ev x).lt N)
    (h : newA S o.op ev K) : ∃ c mk, K c mk ∧ Makes S ρ N evr o c mk := by
  obtain ⟨dst, op, ty, pos, after, g⟩ := o
  have lt1 : ∀ n, Blk.lt (n + 1) (.loc n) := fun n m hm => by simp [Blk.root] at hm; omega
  cases op with
  | alloc T =>
    simp only [newA] at h
    obtain ⟨i, z, hi, hz, h⟩ := zero_out h
    have h := natK_out h
    refine ⟨_, _, h, lt1, trivial, fun w => ⟨_, _, z.cells, T, (0, 0), ?_, Grew.push w _ w.drawn, .inl rfl, .raw fun b => ⟨by simp, ?_, map_cst_lt _⟩, fun ρ' n hρ => ⟨_, _, hρ, by simp, rfl⟩⟩⟩
    · simp [execOp, Instr.alloc, zeroValue, typeInfo, hi, hz, newVar, newRow]
    · rw [List.take_of_length_le (by simp)]; exact map_cst_rel _
  | box T x =>
    simp only [newA] at h
    have h := natK_out h
    obtain ⟨cs, h, hr, hl⟩ := cells_rel h (hev x) (hlt x)
    split at h
    · exact h.elim
    refine ⟨_, _, h, lt1, trivial, fun w => ⟨_, _, (evr x).cells, T, (0, 0), ?_, Grew.push w _ w.drawn, .inl rfl, .raw fun b => ⟨by rw [← hr.length]; simp, ?_, hl⟩, fun ρ' n hρ => ⟨_, _, hρ, by simp, rfl⟩⟩⟩
    · simp [execOp, Instr.box, newVar, newRow]
    · rw [List.take_of_length_le (by rw [← hr.length]; simp)]; exact hr
  | buildSlice T n ps =>
    simp only [newA] at h
    split at h
    · rename_i e hT
      obtain ⟨i, z, hi, hz, h⟩ := zero_out h
      have h := natK_out h
      split at h
      · rename_i hm hp hle
        have hm := Nat.eq_of_beq_eq_true hm
        have hp := Nat.le_of_ble_eq_true hp
        have hle := Nat.le_of_ble_eq_true hle
        rw [List.length_map, Array.length_toList] at hm hp hle h
        have h := forceL_out h
        have hzr : VRels ρ (List.replicate n (z.cells.toList.map cst)).flatten ((Array.range (n * z.cells.size)).map (z.cells[· % z.cells.size]!)).toList := by
          rw [zeroCells_list]; exact replicate_rel (map_cst_rel _) n
        obtain ⟨l, cells', hK, hfill, hz', hl', hlen⟩ := fill_run hev hlt (cells := (Array.range (n * z.cells.size)).map (z.cells[· % z.cells.size]!)) h hzr (replicate_lt (map_cst_lt _) n)
        have hlen' : l.length = n * szA S e := by rw [hlen, ← hm]; simp
        have hsz : cells'.size = n * z.cells.size := by have := hz'.length; simp at this; rw [this, hlen', hm]
        have hc := mkCont_lie (ρ := ρ) (N := N) hS hz' hl' hlen'
        refine ⟨_, _, hK, lt1, hc.2, fun w => ⟨_, _, cells', e, (0, 0), ?_, Grew.push w _ w.drawn, .inl rfl, hc.1, fun ρ' k hρ => sl_fresh hρ rfl (by have : n * 1 ≤ n * z.cells.size := Nat.mul_le_mul_left _ hp; omega) (by omega) n (by omega) (by have : n * 1 ≤ n * z.cells.size := Nat.mul_le_mul_left _ hp; omega) (by omega)⟩⟩
        have hsize := run_size (S := S) (T := e) (by omega) w
        have hpa : (ps.map fun (x : Nat × Operand) => (x.1, evr x.2)).toList = ps.toList.map fun p => (p.1, evr p.2) := by simp
        simp only [execOp, Instr.buildSlice, run_und hT, Sem.run_bind, Sem.run_pure, Result.andThen_ok, hsize, ← hm]
        rw [if_neg (by omega)]
        by_cases hn : n * z.cells.size = 0
        · have hn' : n = 0 := by
            rcases Nat.mul_eq_zero.1 hn with q | q
            · exact q
            · omega
          subst hn'
          have e0 : ∀ f : Nat → Value, (Array.range (0 * z.cells.size)).map f = #[] := fun f => by simp [Array.range_zero']
          rw [e0] at hfill
          simp only [if_pos hn, Sem.run_pure, Result.andThen_ok, e0, hpa, hfill]
          simp [newRow]
        · rw [if_neg hn]
          simp only [zeroValue, typeInfo, hi, hz, Sem.run_bind, Sem.run_pure, Result.andThen_ok, run_program, hpa, hfill]
          simp [newRow]
      · exact h.elim
    · exact h.elim
  | makeSlice T l c =>
    simp only [newA] at h
    split at h
    · rename_i e hT
      split at h
      · rename_i α E hh
        split at h
        · rename_i k1 l' e1
          split at h
          · rename_i k2 c' e2
            have h' := natK_out h
            clear h
            obtain ⟨⟨h0, rfl, hb0, hb⟩, h⟩ := h'
            have h := natK_out h
            have hE : EncOk S.P e E := hS.hint _ _ hh
            have hl := hev l; rw [e1] at hl
            have hc := hev c; rw [e2] at hc
            have hl := int_rel hl
            have hc := int_rel hc
            obtain ⟨z, hz, hzr⟩ := hE.zero
            have hm := hE.m
            cases hi : S.P.info? e with
            | none => rw [hi] at hm; simp at hm
            | some i =>
              rw [hi] at hm hz
              simp at hm hz
              obtain ⟨z0, hz0, rfl⟩ := hz
              have hby : bytesA S e = i.bytes := by simp [bytesA, hi]
              have hpos := hE.pos
              have hzl : z0.cells.size = E.m := by have := (hzr ρ).length; rw [hE.len] at this; simpa using this
              have hrun := fun w => run_make (P := S.P) w T e i z0 hT hi hz0 k1 k2 l' l' h0 (Int.le_refl _) (by rw [hby] at hb; rw [Int.mul_comm]; omega) (by omega)
              have hmade : (madeCells z0.cells (l'.toNat * i.size)).toList = (List.replicate l'.toNat z0.cells.toList).flatten := by
                rw [hm, ← hzl]; exact zeroCells_list _ _
              have hms : (madeCells z0.cells (l'.toNat * i.size)).size = l'.toNat * E.m := by rw [size_madeCells, hm]
              refine ⟨_, _, h, lt1, ⟨_, hE⟩, fun w => ⟨_, _, madeCells z0.cells (l'.toNat * i.size), e, (0, 0), ?_, Grew.push w _ w.drawn, .inl rfl, .arr fun b => ⟨by simp [hms], fun j hj => ⟨?_, hE.plain _ _⟩⟩,
                fun ρ' k hρ => sl_fresh hρ (by omega) (by omega) (by omega) l'.toNat (Nat.le_refl _) (by omega) (by omega)⟩⟩
              · simp only [execOp, hl, hc, Sem.run_bind, hrun, Result.andThen_ok, Sem.run_pure]
                simp [World.alloc, -World.alloc_eq]
              · rw [hmade, flatten_piece (by simpa using hzl) (by simpa using hj)]
                rw [List.length_replicate] at hj
                show VRels ρ (E.cells ((List.replicate l'.toNat E.d).getD j E.d)) _
                rw [List.getD_eq_getElem?_getD, List.getElem?_replicate, if_pos hj]
                exact hzr ρ
          · exact h.elim
        · exact h.elim
      · split at h
        · rename_i α m d g s f hh
          split at h
          · rename_i k1 l' e1
            split at h
            · rename_i k2 c' e2
              have h' := natK_out h
              clear h
              obtain ⟨⟨h0, rfl, hb0, hb⟩, h⟩ := h'
              have h := natK_out h
              obtain ⟨hT0, hcont⟩ := hS.nest _ _ hh
              have hl := hev l; rw [e1] at hl
              have hc := hev c; rw [e2] at hc
              have hl := int_rel hl
              have hc := int_rel hc
              obtain ⟨z, hz, hzr⟩ := hT0.zero
              have hm := hT0.siz
              cases hi : S.P.info? e with
              | none => rw [hi] at hm; simp at hm
              | some i =>
                rw [hi] at hm hz
                simp at hm hz
                obtain ⟨z0, hz0, rfl⟩ := hz
                have hby : bytesA S e = i.bytes := by simp [bytesA, hi]
                have hpos := hT0.pos
                have hzl : z0.cells.size = m := by have := (hzr (fun _ => none) (fun _ => .loc 0) (fun _ _ => rfl)).length; rw [hT0.len] at this; simpa using this
                have hrun := fun w => run_make (P := S.P) w T e i z0 hT hi hz0 k1 k2 l' l' h0 (Int.le_refl _) (by rw [hby] at hb; rw [Int.mul_comm]; omega) (by omega)
                have hmade : (madeCells z0.cells (l'.toNat * i.size)).toList = (List.replicate l'.toNat z0.cells.toList).flatten := by
                  rw [hm, ← hzl]; exact zeroCells_list _ _
                have hms : (madeCells z0.cells (l'.toNat * i.size)).size = l'.toNat * m := by rw [size_madeCells, hm]
                refine ⟨_, _, h, lt1, ⟨⟨_, hT0⟩, hcont⟩, fun w => ⟨_, _, madeCells z0.cells (l'.toNat * i.size), e, (0, 0), ?_, Grew.push w _ w.drawn, .inl rfl, FreshC.nest (S := S) hT0 (by simp [hms]) fun j hj => ⟨z0.cells.toList, by simp [hi, hz0], ?_⟩,
                  fun ρ' k hρ => sl_fresh hρ (by omega) (by omega) (by omega) l'.toNat (Nat.le_refl _) (by omega) (by omega)⟩⟩
                · simp only [execOp, hl, hc, Sem.run_bind, hrun, Result.andThen_ok, Sem.run_pure]
                  simp [World.alloc, -World.alloc_eq]
                · rw [hmade, flatten_piece (by simpa using hzl) (by simpa using hj)]
            · exact h.elim
          · exact h.elim
        · exact h.elim
    · exact h.elim
  | convert s d x =>
    simp only [newA] at h
    split at h
    · rename_i e hs hd
      split at h
      · rename_i he
        split at h
        · rename_i α E hh
          split at h
          · rename_i t et
            obtain ⟨ys, ⟨hm, hys⟩, h⟩ := h
            have hx := hev x
            rw [et] at hx
            obtain ⟨a, er, rfl, hb⟩ := hx
            have hE : EncOk S.P e E := hS.hint _ _ hh
            have hlen : ys.length = a.size := by have := congrArg List.length hys; simpa [bytesL_length] using this.symm
            have hcap : ∀ w : World, a.size ≤ grownCap w a.size 0 e ∧ grownCap w a.size 0 e ≤ 9223372036854775807 := fun w => ⟨by simp [grownCap, Question.cut], by have := grownCap_le_maxLen w a.size 0 e (by simpa [maxLen] using hb); simpa [maxLen] using this⟩
            have hsz : ∀ w : World, (Lib.bytesCells w e a).size = grownCap w a.size 0 e := fun w => by
              have h1 := (hcap w).1
              have h2 : (Lib.bytesCells w e a).size = a.data.size + (grownCap w a.size 0 e - a.size) := by simp [Lib.bytesCells]
              have h3 : a.data.size = a.size := rfl
              omega
            refine ⟨_, _, h, lt1, ⟨_, hE⟩, fun w => ⟨_, _, Lib.bytesCells w e a, e, _, ?_, ⟨Lib.bytesWorld_size w e a, fun j hj => Lib.bytesWorld_at_old w e a j hj, Lib.bytesWorld_at_new w e a, ?_, ?_, ?_⟩, .inr (Nat.le_refl _), .arr fun b => ⟨by rw [hlen, hm, hsz]; have := (hcap w).1; omega, fun j hj => ⟨?_, hE.plain _ _⟩⟩,
              fun ρ' k hρ => sl_fresh hρ (by simp [bytesL_length]) hb (by rw [hsz]; have := (hcap w).1; omega) _ (hcap w).1 (hcap w).2 (by rw [hsz]; omega)⟩⟩
            · have := Lib.run_convert_string_bytes w s d e a hs hd he
              simp only [execOp, er, Sem.run_bind, this, Result.andThen_ok, Sem.run_pure]
            · simp [Lib.bytesWorld, World.freeze, World.alloc, World.drew, -World.alloc_eq, -World.drew_eq]
            · simp [Lib.bytesWorld, World.freeze, World.alloc, World.drew, -World.alloc_eq, -World.drew_eq]
            · simp [Lib.bytesWorld, World.freeze, World.alloc, World.drew, -World.alloc_eq, -World.drew_eq]
            · have hj' : j < (bytesL a).length := by rw [bytesL_length]; omega
              have e1 : E.cells (ys.getD j E.d) = [.int .u8 ((bytesL a)[j])] := by
                have := congrArg (fun l => l[j]?) hys
                simp only [List.getElem?_map, List.getElem?_eq_getElem hj, List.getElem?_eq_getElem hj', Option.map_some, Option.some.injEq] at this
                rw [List.getD_eq_getElem?_getD, List.getElem?_eq_getElem hj, Option.getD_some, ← this]
              show VRels ρ (E.cells (ys.getD j E.d)) _
              rw [e1, hm]
              have e2 : (((Lib.bytesCells w e a).toList.drop (j * 1)).take 1) = [Value.int .u8 ((bytesL a)[j])] := by
                have hj2 : j < a.data.toList.length := by simpa [bytesL] using hj'
                have hd1 : (Lib.bytesCells w e a).toList = (bytesL a).map (Value.int .u8) ++ List.replicate (grownCap w a.size 0 e - a.size) (.int .u8 0) := by
                  simp [Lib.bytesCells, bytesL, Function.comp_def]
                rw [hd1, Nat.mul_one, List.drop_append_of_le_length (by simp; omega), List.drop_eq_getElem_cons (by simpa using hj')]
                simp
              rw [e2]
              exact ⟨_, _, rfl, rfl, rfl⟩
          · exact h.elim
        · exact h.elim
      · exact h.elim
    · exact h.elim
  | _ => exact h.elim
end
end Go.Vm

namespace Go.Vm
open Go.RowKit
section
variable {S : Seat} {H : Heap} {w w' : World} {N N' : Nat}
def RwF (ρ : Lay) (H : Heap) : Foot := fun k c => ∃ e ∈ H.ents, e.rw = true ∧ ρ.foot e.b k c
structure Kept (P : Foot) (w w' : World) : Prop where
  obj : ∀ k o, w.heap[k]? = some o → (∀ c, P k c) → w'.heap[k]? = some o
  cells : KeepF P w w'
theorem Kept.refl (P : Foot) (w : World) : Kept P w w := ⟨fun _ _ h _ => h, .refl _ _⟩
theorem Kept.mono {P Q : Foot} (h : Kept P w w') (hg : ∀ k c, Q k c → P k c) : Kept Q w w' := ⟨fun k o e q => h.obj k o e fun c => hg k c (q c), h.cells.mono hg⟩
theorem Kept.trans {P Q : Foot} {w'' : World} (h : Kept P w w') (h' : Kept Q w' w'') (hq : ∀ k c, k < w.heap.size → P k c → Q k c) : Kept P w w'' := by
  have lt : ∀ {k : Nat} {o : Obj}, w.heap[k]? = some o → k < w.heap.size := fun e => (Array.getElem?_eq_some_iff.1 e).1
  refine ⟨fun k o e p => h'.obj k o (h.obj k o e p) fun c => hq k c (lt e) (p c), fun k arr T fz e => ?_⟩
  obtain ⟨a1, f1, g1, g2, g3, g4⟩ := h.cells k arr T fz e
  obtain ⟨a2, f2, k1, k2, k3, k4⟩ := h'.cells k a1 T f1 g1
  refine ⟨a2, f2, k1, k2.trans g2, fun q => ?_, fun c p => (k4 c (hq k c (lt e) p)).trans (g4 c p)⟩
  exact k3 (g3 q)
theorem Kept.one {k : Nat} {z : Nat × Nat} {arr arr' : Array Value} {T : TypeId} {fz fz' : Nat × Nat} (h0 : w.heap[k]? = some (.cells arr T fz)) (h1 : w'.heap[k]? = some (.cells arr' T fz')) (hs : arr'.size = arr.size) (hf : FzOk fz arr → FzOk fz' arr')
    (hz : 0 < z.2) (hc : ∀ c, ¬ inZ z c → arr'[c]? = arr[c]?) (ho : ∀ j, j ≠ k → w'.heap[j]? = w.heap[j]?) : Kept (fun k' c => ¬ (k' = k ∧ inZ z c)) w w' := by
  refine ⟨fun j o e p => ?_, fun j a T' f e => ?_⟩
  · by_cases hj : j = k
    · exact absurd ⟨hj, Nat.le_refl _, by omega⟩ (p z.1)
    · rw [ho j hj]; exact e
  · by_cases hj : j = k
    · subst hj
      rw [h0] at e
      simp at e
      obtain ⟨rfl, rfl, rfl⟩ := e
      exact ⟨arr', fz', h1, hs, hf, fun c p => hc c fun q => p ⟨rfl, q⟩⟩
    · exact ⟨a, f, by rw [ho j hj]; exact e, rfl, id, fun _ _ => rfl⟩
structure After (S : Seat) (ρ : Lay) (H : Heap) (w : World) (ρ' : Lay) (H' : Heap) (w' : World) : Prop where
  next : H.next ≤ H'.next
  agree : Agree H.next ρ ρ'
  heap : HRel S ρ' H' w'
  size : w.heap.size ≤ w'.heap.size
  frame : Kept (fun k c => ¬ RwF ρ H k c) w w'
  own : ∀ k c, RwF ρ' H' k c → w.heap.size ≤ k ∨ RwF ρ H k c
  os : w'.os = w.os
  tape : w'.tape = w.tape
  output : w'.output = w.output
section
variable {ρ ρ' : Lay}
theorem After.refl (h : HRel S ρ H w) : After S ρ H w ρ H w :=
  ⟨Nat.le_refl _, .refl _ _, h, Nat.le_refl _, .refl _ _, fun _ _ h => .inr h, rfl, rfl, rfl⟩
theorem After.trans {ρ'' : Lay} {H' H'' : Heap} {w'' : World} (h : After S ρ H w ρ' H' w') (k : After S ρ' H' w' ρ'' H'' w'') : After S ρ H w ρ'' H'' w'' where
  next := Nat.le_trans h.next k.next
  agree := h.agree.trans k.agree h.next
  heap := k.heap
  size := Nat.le_trans h.size k.size
  frame := h.frame.trans k.frame fun i c hi p q => by
    rcases h.own i c q with q | q
    · omega
    · exact p q
  own := fun i c hi => by
    rcases k.own i c hi with q | q
    · left; have := h.size; omega
    · exact h.own i c q
  os := k.os.trans h.os
  tape := k.tape.trans h.tape
  output := k.output.trans h.output
end
def setE : List Ent → Blk → Cont → List Ent
  | [], _, _ => []
  | e :: r, b, c => match Blk.beq e.b b with
    | true => ⟨e.b, e.rw, c⟩ :: r
    | false => e :: setE r b c
theorem setK_out : ∀ {l : List Ent} {b : Blk} {c : Cont} {K : List Ent → Prop}, setK l b c K → K (setE l b c)
  | [], _, _, _, h => h
  | e :: r, b, c, K, h => by
    unfold setK at h
    unfold setE
    split at h
    · rename_i q; rw [q]; exact h
    · rename_i q; rw [q]; exact setK_out (K := fun r => K (e :: r)) h
theorem setH_out {H : Heap} {b : Blk} {c : Cont} {K : Heap → Prop} (h : setH H b c K) : K ⟨setE H.ents b c, H.next⟩ := by
  obtain ⟨l, nx⟩ := H
  have h : c.force fun c => setK l b c fun l => K ⟨l, nx⟩ := h
  exact setK_out (K := fun l => K ⟨l, nx⟩) (Cont.force_out h)
def delE : List Ent → Blk → List Ent
  | [], _ => []
  | e :: r, b => match Blk.beq e.b b with
    | true => r
    | false => e :: delE r b
theorem delK_out : ∀ {l : List Ent} {b : Blk} {K : List Ent → Prop}, delK l b K → K (delE l b)
  | [], _, _, h => h
  | e :: r, b, K, h => by
    unfold delK at h
    unfold delE
    split at h
    · rename_i q; rw [q]; exact h
    · rename_i q; rw [q]; exact delK_out (K := fun r => K (e :: r)) h
theorem delE_sub : ∀ (l : List Ent) (b : Blk), (delE l b).Sublist l
  | [], _ => .slnil
  | e :: r, b => by
    unfold delE
    split
    · exact List.sublist_cons_self _ _
    · exact (delE_sub r b).cons_cons _
theorem setE_mem : ∀ {l : List Ent} {b : Blk} {c : Cont} {e : Ent}, getE l b = some e → l.Pairwise (fun e e' => e.b ≠ e'.b) →
    ∀ x ∈ setE l b c, x = ⟨b, e.rw, c⟩ ∨ (x ∈ l ∧ x.b ≠ b)
  | [], _, _, _, h, _, x, hx => by simp [getE] at h
  | a :: r, b, c, e, h, hp, x, hx => by
    unfold getE at h
    unfold setE at hx
    rw [List.pairwise_cons] at hp
    split at h
    · rename_i q
      rw [q] at hx
      simp at h; subst h
      have hb := Blk.beq_eq q
      simp only [List.mem_cons] at hx
      rcases hx with rfl | hx
      · left; rw [hb]
      · right; exact ⟨List.mem_cons_of_mem _ hx, fun e' => hp.1 x hx (by rw [hb, e'])⟩
    · rename_i q
      rw [q] at hx
      simp only [List.mem_cons] at hx
      rcases hx with rfl | hx
      · right
        refine ⟨List.mem_cons_self, fun e' => ?_⟩
        obtain ⟨h1, h2⟩ := getE_mem h
        exact hp.1 e h1 (by rw [e', h2])
      · rcases setE_mem h hp.2 x hx with q | q
        · exact .inl q
        · exact .inr ⟨List.mem_cons_of_mem _ q.1, q.2⟩
theorem setE_keys : ∀ {l : List Ent} {b : Blk} {c : Cont}, l.Pairwise (fun e e' => e.b ≠ e'.b) → (setE l b c).Pairwise (fun e e' => e.b ≠ e'.b) := by
  intro l b c h
  have hm : (setE l b c).map (·.b) = l.map (·.b) := by
    clear h
    induction l with
    | nil => rfl
    | cons e r ih =>
      unfold setE
      split
      · simp
      · simp [ih]
  have := List.pairwise_map.2 h
  rw [← hm] at this
  exact List.pairwise_map.1 this
section
variable {ρ ρ' : Lay}
theorem HRel.rest (h : HRel S ρ H w) {b : Blk} {e : Ent} (hm : e ∈ H.ents) (hkey : e.b = b) (hrw : e.rw = true) {P : Foot} (hP : ∀ k c, ¬ P k c → ρ.foot b k c) (hw : Kept P w w') {ρ' : Lay} (ha : Agree H.next ρ ρ') (hN : H.next ≤ N') {x : Ent} (hx : x ∈ H.ents) (hxb : x.b ≠ b) :
    HoldsE ρ' N' w' x.rw x.c x.b (ρ.foot x.b) :=
  (h.holds x hx).turn (h.enc x hx) (h.key x hx).1 ha hN (hw.cells.mono fun k c q => Classical.byContradiction fun p => h.sep x hx e hm (.inr hrw) (by rw [hkey]; exact hxb) k c q (by rw [hkey]; exact hP k c p))
theorem HRel.update (h : HRel S ρ H w) {b : Blk} {e : Ent} {c : Cont} {P : Foot} (he : getE H.ents b = some e) (hrw : e.rw = true)
    (hok : ContOk S c) (hP : ∀ k c, ¬ P k c → ρ.foot b k c) (hw : Kept P w w') (hh : HoldsE ρ H.next w' true c b (ρ.foot b)) (hs : w.heap.size ≤ w'.heap.size)
    (ho : w'.os = w.os) (ht : w'.tape = w.tape) (hout : w'.output = w.output) : After S ρ H w ρ ⟨setE H.ents b c, H.next⟩ w' := by
  obtain ⟨hm, hkey⟩ := getE_mem he
  have hmem := setE_mem (c := c) he h.keys
  have back : ∀ x ∈ setE H.ents b c, ∃ y ∈ H.ents, y.b = x.b ∧ y.rw = x.rw := by
    intro x hx
    rcases hmem x hx with rfl | ⟨q1, q2⟩
    · exact ⟨e, hm, hkey, rfl⟩
    · exact ⟨x, q1, rfl, rfl⟩
  refine ⟨Nat.le_refl _, .refl _ _, ⟨?_, ?_, ?_, setE_keys h.keys, h.glob, fun x hx => ?_, fun x hx k c q => ?_, fun x hx q => ?_⟩, hs, hw.mono ?_, ?_, ho, ht, hout⟩
  · intro x hx
    rcases hmem x hx with rfl | ⟨q1, q2⟩
    · rw [hrw]; exact hh
    · exact h.rest hm hkey hrw hP hw (.refl _ _) (Nat.le_refl _) q1 q2
  · intro x hx
    obtain ⟨y, q1, q2, q3⟩ := back x hx
    exact q2 ▸ h.key y q1
  · intro x hx x' hx' hor hne
    obtain ⟨y, q1, q2, q3⟩ := back x hx
    obtain ⟨y', p1, p2, p3⟩ := back x' hx'
    rw [← q2, ← p2]
    exact h.sep y q1 y' p1 (by rw [q3, p3]; exact hor) (by rw [q2, p2]; exact hne)
  · rcases hmem x hx with rfl | ⟨q1, _⟩
    · exact hok
    · exact h.enc x q1
  · obtain ⟨y, q1, q2, _⟩ := back x hx
    exact Nat.lt_of_lt_of_le (h.low y q1 k c (by rw [q2]; exact q)) hs
  · obtain ⟨y, q1, q2, q3⟩ := back x hx
    rw [← q2]
    exact h.root y q1 (q3.trans q)
  · intro k c' q
    exact Classical.byContradiction fun p => q ⟨e, hm, hrw, by rw [hkey]; exact hP k c' p⟩
  · rintro k c' ⟨x, hx, hxr, q⟩
    obtain ⟨y, q1, q2, q3⟩ := back x hx
    exact .inr ⟨y, q1, q3.trans hxr, by rw [q2]; exact q⟩
def Loc.set (ρ : Loc) (n : Nat) (o : Option (Nat × (Nat × Nat))) : Loc := fun b => match b with
  | .loc m => if m = n then o else ρ (.loc m)
  | b => ρ b
theorem Loc.set_agree (ρ : Loc) (n : Nat) (o : Option (Nat × (Nat × Nat))) : Agree n ρ (ρ.set n o) := by
  intro b hb
  cases b with
  | loc m => have := hb m rfl; simp [Loc.set]; omega
  | glob g => rfl
  | sub b i j => rfl
theorem Loc.set_self (ρ : Loc) (n : Nat) (o : Option (Nat × (Nat × Nat))) : ρ.set n o (.loc n) = o := by simp [Loc.set]
open Classical in
noncomputable def Lay.set (ρ : Lay) (n : Nat) (o : Option (Nat × (Nat × Nat))) (F : Foot) : Lay := ⟨ρ.loc.set n o, fun b => if b = .loc n then F else ρ.foot b⟩
theorem Lay.set_agree (ρ : Lay) (n : Nat) (o : Option (Nat × (Nat × Nat))) (F : Foot) : Agree n ρ (ρ.set n o F) := Loc.set_agree _ _ _
theorem Lay.set_self (ρ : Lay) (n : Nat) (o : Option (Nat × (Nat × Nat))) (F : Foot) : (ρ.set n o F).loc (.loc n) = o := Loc.set_self _ _ _
theorem Lay.set_foot (ρ : Lay) (n : Nat) (o : Option (Nat × (Nat × Nat))) (F : Foot) : (ρ.set n o F).foot (.loc n) = F := by simp [Lay.set]
theorem Lay.set_old (ρ : Lay) {n : Nat} (o : Option (Nat × (Nat × Nat))) (F : Foot) {b : Blk} (h : b.lt n) : (ρ.set n o F).foot b = ρ.foot b := by
  have : b ≠ .loc n := fun q => by have := h n (by rw [q]; rfl); omega
  simp [Lay.set, this]
end
section
variable {ρ ρ' : Lay}
theorem HRel.add (h : HRel S ρ H w) {c : Cont} {o : Option (Nat × (Nat × Nat))} {F : Foot} {l : List Ent} {rw : Bool} (hl : l.Sublist H.ents) (hok : ContOk S c) (hs : w.heap.size ≤ w'.heap.size)
    (hh : HoldsE (ρ.set H.next o F) (H.next + 1) w' rw c (.loc H.next) F) (hold : ∀ x ∈ l, HoldsE (ρ.set H.next o F) (H.next + 1) w' x.rw x.c x.b (ρ.foot x.b))
    (hsep : ∀ x ∈ l, (rw = true ∨ x.rw = true) → Disj F (ρ.foot x.b)) (hlow : ∀ k c, F k c → k < w'.heap.size) : HRel S (ρ.set H.next o F) ⟨⟨.loc H.next, rw, c⟩ :: l, H.next + 1⟩ w' := by
  have hold' : ∀ x ∈ l, (ρ.set H.next o F).foot x.b = ρ.foot x.b := fun x hx => Lay.set_old _ _ _ (h.key x (hl.subset hx)).1
  refine ⟨?_, ?_, ?_, ?_, ?_, ?_, ?_, ?_⟩
  · intro x hx
    rcases List.mem_cons.1 hx with rfl | hx
    · simp only; rw [Lay.set_foot]; exact hh
    · rw [hold' x hx]; exact hold x hx
  · intro x hx
    rcases List.mem_cons.1 hx with rfl | hx
    · exact ⟨fun n hn => by simp [Blk.root] at hn; show n < H.next + 1; omega, trivial⟩
    · exact ⟨(h.key x (hl.subset hx)).1.mono (by simp), (h.key x (hl.subset hx)).2⟩
  · intro x hx y hy hor hne
    rcases List.mem_cons.1 hx with rfl | hx <;> rcases List.mem_cons.1 hy with rfl | hy
    · exact absurd rfl hne
    · simp only; rw [Lay.set_foot, hold' y hy]; exact hsep y hy hor
    · simp only; rw [Lay.set_foot, hold' x hx]; exact (hsep x hx hor.symm).symm
    · rw [hold' x hx, hold' y hy]; exact h.sep x (hl.subset hx) y (hl.subset hy) hor hne
  · rw [List.pairwise_cons]
    refine ⟨fun x hx q => ?_, h.keys.sublist hl⟩
    have := (h.key x (hl.subset hx)).1 H.next (by rw [← q]; rfl)
    omega
  · intro g; exact h.glob g
  · intro x hx
    rcases List.mem_cons.1 hx with rfl | hx
    · exact hok
    · exact h.enc x (hl.subset hx)
  · intro x hx k c q
    rcases List.mem_cons.1 hx with rfl | hx
    · simp only at q; rw [Lay.set_foot] at q; exact hlow k c q
    · rw [hold' x hx] at q; exact Nat.lt_of_lt_of_le (h.low x (hl.subset hx) k c q) hs
  · intro x hx q
    rcases List.mem_cons.1 hx with rfl | hx
    · simp [Blk.root]
    · exact h.root x (hl.subset hx) q
theorem keepF_grew {o : Obj} (hg : Grew w w' o) (F : Foot) : KeepF F w w' := fun k arr T fz e =>
  ⟨arr, fz, (hg.old k (Array.getElem?_eq_some_iff.1 e).1).trans e, rfl, id, fun _ _ => rfl⟩
theorem HRel.push (h : HRel S ρ H w) {c : Cont} {arr : Array Value} {T : TypeId} {fz : Nat × Nat} (hg : Grew w w' (.cells arr T fz)) (hf : FzOk fz arr)
    (hok : ContOk S c) (hl : FreshC ρ H.next arr c) : After S ρ H w (ρ.set H.next (some (w.heap.size, (0, arr.size))) (regF (some (w.heap.size, (0, arr.size))))) ⟨⟨.loc H.next, true, c⟩ :: H.ents, H.next + 1⟩ w' := by
  have ha := Lay.set_agree ρ H.next (some (w.heap.size, (0, arr.size))) (regF (some (w.heap.size, (0, arr.size))))
  have hsz : w.heap.size ≤ w'.heap.size := by rw [hg.size]; omega
  have reg : ∀ k c, regF (some (w.heap.size, (0, arr.size))) k c → k = w.heap.size := by rintro k c ⟨z, q, _⟩; simp at q; exact q.1.symm
  refine ⟨by simp, ha, h.add (List.Sublist.refl _) hok hsz ?_ (fun x hx => ?_) (fun x hx _ k c' q p => ?_) (fun k c' q => ?_), hsz, ⟨fun k o e _ => (hg.old k (Array.getElem?_eq_some_iff.1 e).1).trans e, keepF_grew hg _⟩, ?_, hg.os, hg.tape, hg.output⟩
  · have := hl (ρ.set H.next (some (w.heap.size, (0, arr.size))) (regF (some (w.heap.size, (0, arr.size))))).loc (H.next + 1) (.loc H.next) w' w.heap.size T fz ha (by omega) (Lay.set_self _ _ _ _) hg.new hf
    rw [Lay.set_self] at this
    exact this
  · exact (h.holds x hx).turn (h.enc x hx) (h.key x hx).1 ha (by simp) (keepF_grew hg _)
  · have := reg k c' q
    have := h.low x hx k c' p
    omega
  · have := reg k c' q
    rw [hg.size]; omega
  · rintro k c' ⟨x, hx, hxr, q⟩
    rcases List.mem_cons.1 hx with rfl | hx
    · simp only at q; rw [Lay.set_foot] at q
      left; have := reg k c' q; omega
    · rw [Lay.set_old _ _ _ (h.key x hx).1] at q
      exact .inr ⟨x, hx, hxr, q⟩
theorem HRel.sub (h : HRel S ρ H w) {l : List Ent} (hl : l.Sublist H.ents) : HRel S ρ ⟨l, H.next⟩ w :=
  ⟨fun e he => h.holds e (hl.subset he), fun e he => h.key e (hl.subset he), fun e he e' he' => h.sep e (hl.subset he) e' (hl.subset he'), h.keys.sublist hl, h.glob, fun e he => h.enc e (hl.subset he), fun e he => h.low e (hl.subset he), fun e he => h.root e (hl.subset he)⟩
theorem RwF.sub {l : List Ent} (hl : l.Sublist H.ents) {k c : Nat} (h : RwF ρ ⟨l, H.next⟩ k c) : RwF ρ H k c := by
  obtain ⟨e, he, r⟩ := h
  exact ⟨e, hl.subset he, r⟩
theorem After.sub {H' : Heap} (h : After S ρ H w ρ' H' w') {l : List Ent} (hl : l.Sublist H'.ents) : After S ρ H w ρ' ⟨l, H'.next⟩ w' :=
  ⟨h.next, h.agree, h.heap.sub hl, h.size, h.frame, fun k c hk => h.own k c (hk.sub hl), h.os, h.tape, h.output⟩
end
end
/-! ### other names -/
def ext (b : Blk) : List (Int × Nat) → Blk
  | [] => b
  | (i, j) :: r => ext (.sub b i j) r
def SameUnder (ρ ρ' : Loc) (b1 b2 : Blk) : Prop := ∀ p, ρ' (ext b2 p) = ρ (ext b1 p)
theorem SameUnder.self {ρ ρ' : Loc} {b1 b2 : Blk} (h : SameUnder ρ ρ' b1 b2) : ρ' b2 = ρ b1 := h []
theorem SameUnder.sub {ρ ρ' : Loc} {b1 b2 : Blk} (h : SameUnder ρ ρ' b1 b2) (i : Int) (j : Nat) : SameUnder ρ ρ' (.sub b1 i j) (.sub b2 i j) := fun p => h ((i, j) :: p)
theorem Holds.ren {S : Seat} {ρ ρ' : Loc} {N N' : Nat} {w : World} {rw : Bool} (h0 : Agree 0 ρ ρ') : ∀ {c : Cont} {b1 b2 : Blk} {F : Foot}, ContOk S c → (∀ vs, c ≠ .raw vs) → SameUnder ρ ρ' b1 b2 → Holds ρ N w rw c b1 F → Holds ρ' N' w rw c b2 F
  | .raw vs, _, _, _, _, hc, _, _ => absurd rfl (hc vs)
  | .arr E xs, b1, b2, F, hok, hc, hs, h => by
    refine ⟨?_, fun k c q => h.2 k c (hs.self ▸ q)⟩
    have hl := h.1
    obtain ⟨T, hE⟩ := hok
    unfold Lies at hl ⊢
    rw [hs.self]
    split at hl
    · exact hl
    · obtain ⟨arr, T, fz, h1, h2, h3, h4, h5⟩ := hl
      refine ⟨arr, T, fz, h1, h2, h3, h4, fun i hi => ⟨?_, hE.plain _ _⟩⟩
      have := (h5 i hi).1
      exact VRels.agree h0 (hE.plain _ 0) this
  | .nest m d g s f xs o, b1, b2, F, hok, hc, hs, h => by
    obtain ⟨⟨hl, hr⟩, Fs, h3, h4, h5⟩ := h
    obtain ⟨⟨T, hT⟩, hsub⟩ := hok
    refine ⟨⟨?_, fun k c q => hr k c (hs.self ▸ q)⟩, Fs, fun i hi hv j hj => ?_, h4, fun q => ?_⟩
    · unfold Lies at hl ⊢
      rw [hs.self]
      split at hl
      · exact hl
      · obtain ⟨arr, T, fz, g1, g2, g3, g4, g5⟩ := hl
        exact ⟨arr, T, fz, g1, g2, g3, g4, fun i hi hv => hT.ren _ _ _ _ _ _ (fun j _ => (hs.sub i j).self) (g5 i hi hv)⟩
    · refine Holds.ren h0 (hsub _ _).1 (fun vs q => ?_) (hs.sub i j) (h3 i hi hv j hj)
      have := (hsub (xs.getD i d) j).2
      rw [q] at this
      exact this
    · rw [hs.self]; exact h5 q
open Classical in
noncomputable def rebase (b2 b1 : Blk) : Blk → Blk
  | .sub c i j => if Blk.sub c i j = b2 then b1 else .sub (rebase b2 b1 c) i j
  | .loc n => if Blk.loc n = b2 then b1 else .loc n
  | .glob n => if Blk.glob n = b2 then b1 else .glob n
theorem rebase_self (b2 b1 : Blk) : rebase b2 b1 b2 = b1 := by cases b2 <;> simp [rebase]
theorem ext_under (b : Blk) : ∀ (p : List (Int × Nat)) (c : Blk), (c = b ∨ Under b c) → ext c p = b ∧ p = [] ∨ Under b (ext c p)
  | [], c, h => by
    rcases h with rfl | h
    · exact .inl ⟨rfl, rfl⟩
    · exact .inr h
  | (i, j) :: r, c, h => by
    rcases ext_under b r (.sub c i j) (.inr h) with ⟨q, _⟩ | q
    · -- impossible: a block within is not the block
      exfalso
      have hu : ∀ (p : List (Int × Nat)) (x : Blk), Under b x → Under b (ext x p) := by
        intro p
        induction p with
        | nil => intro x hx; exact hx
        | cons a p ih => intro x hx; exact ih _ (.inr hx)
      have := hu r (.sub c i j) h
      rw [q] at this
      exact not_under_self b this
    · exact .inr q
theorem rebase_ext {b2 b1 : Blk} : ∀ (p : List (Int × Nat)) (c c1 : Blk), (c = b2 ∨ Under b2 c) → rebase b2 b1 c = c1 → rebase b2 b1 (ext c p) = ext c1 p
  | [], c, c1, _, e => e
  | (i, j) :: r, c, c1, h, e => by
    refine rebase_ext r (.sub c i j) (.sub c1 i j) (.inr h) ?_
    have hne : Blk.sub c i j ≠ b2 := fun q => by
      have : Under b2 (Blk.sub c i j) := h
      rw [q] at this
      exact not_under_self b2 this
    simp only [rebase]
    rw [if_neg hne, e]
open Classical in
noncomputable def moveL (b2 b1 : Blk) (ρin ρout : Loc) : Loc := fun b' => if Under b2 b' then ρin (rebase b2 b1 b') else ρout b'
theorem moveL_off (b2 b1 : Blk) (ρin ρout : Loc) : Off b2 ρout (moveL b2 b1 ρin ρout) := fun b' h => by simp [moveL, h]
theorem moveL_same {b2 b1 : Blk} {ρin ρout : Loc} (h : ρout b2 = ρin b1) : SameUnder ρin (moveL b2 b1 ρin ρout) b1 b2 := by
  intro p
  rcases ext_under b2 p b2 (.inl rfl) with ⟨q1, rfl⟩ | q
  · simp only [ext]
    rw [moveL_off b2 b1 ρin ρout b2 (not_under_self b2), h]
  · simp only [moveL, if_pos q]
    rw [rebase_ext p b2 b1 (.inl rfl) (rebase_self _ _)]
end Go.Vm
