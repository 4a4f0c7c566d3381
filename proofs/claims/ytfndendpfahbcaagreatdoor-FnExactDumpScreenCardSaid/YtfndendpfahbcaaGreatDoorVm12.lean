/- An abstract machine over the loaded code: append and copy. -/
import Derived.Test.YtfndendpfahbcaaGreatDoorVm11
set_option linter.unusedSimpArgs false
set_option linter.unusedVariables false
namespace Go.Vm
open Go.RowKit

section
variable (S : Seat)

/-- what is appended or copied, as elements of a kind -/
def srcA (T : TypeId) {α : Type} (E : Enc α) (x : AV) (H : Heap) (K : List α → Prop) : Prop :=
  match S.P.underlying T with
  | some (.slice _) => elemsA E H.ents x K
  | some .string => match x with
    | .str t => ∃ ys, (E.m = 1 ∧ t.map (fun n => [AV.int .u8 n]) = ys.map E.cells) ∧ K ys
    | _ => False
  | _ => False

def appendK {α : Type} (E : Enc α) (e : TypeId) (xs ys : List α) (H : Heap) (K : AV → Heap → Prop) : Prop :=
  natK (bytesA S e) fun B => (((xs.length + ys.length : Nat) : Int) * (B : Int) ≤ 140737488355328 ∧ ((xs.length + ys.length : Nat) : Int) ≤ 140737488355328) ∧
  pushK H (.arr E (xs ++ ys)) fun n H => natK E.m fun m => K (.sl (.loc n) m none ((xs.length + ys.length : Nat) : Int)) H

/-- append -/
def appendA (T U : TypeId) (s x : AV) (H : Heap) (K : AV → Heap → Prop) : Prop :=
  match S.P.underlying T with
  | some (.slice e) => match S.hint e with
    | some ⟨_, E⟩ => srcA S U E x H fun ys => match s with
      | .nils => appendK S E e [] ys H K
      | .sl b m none n => match getE H.ents b with
        | some ⟨_, true, c⟩ => ∃ xs, (c = .arr E xs ∧ m = E.m ∧ n = xs.length) ∧ match H with
          | ⟨l0, nx⟩ => delK l0 b fun l => appendK S E e xs ys ⟨l, nx⟩ K
        | _ => False
      | _ => False
    | none => False
  | _ => False

/-- the first of some elements put over others -/
def over {α : Type} (xs : List α) (i : Nat) (ys : List α) : List α := xs.take i ++ (ys ++ xs.drop (i + ys.length))

/-- copy -/
def copyA (T U : TypeId) (s x : AV) (H : Heap) (K : AV → Heap → Prop) : Prop :=
  match S.P.underlying T with
  | some (.slice e) => match S.hint e with
    | some ⟨_, E⟩ => srcA S U E x H fun ys => match s with
      | .nils => K (.int .i64 0) H
      | .sl b m i n => match getE H.ents b with
        | some ⟨_, true, c⟩ => ∃ xs, (c = .arr E xs ∧ m = E.m) ∧ match i with
          | none => (0 ≤ n ∧ n ≤ xs.length) ∧ setH H b (.arr E (over xs 0 (ys.take n.toNat))) fun H => K (.int .i64 (min (ys.length : Int) n)) H
          | some i => (0 ≤ i ∧ 0 ≤ n ∧ i + n ≤ xs.length) ∧ setH H b (.arr E (over xs i.toNat (ys.take n.toNat))) fun H => K (.int .i64 (min (ys.length : Int) n)) H
        | _ => False
      | _ => False
    | none => False
  | _ => False
end

section
variable {S : Seat} {ρ ρ' : Loc} {H : Heap} {w w' : World} {N N' : Nat}

def Loc.setO (ρ : Loc) (n : Nat) (o : Option (Nat × (Nat × Nat))) : Loc := fun b => match b with
  | .loc m => if m = n then o else ρ (.loc m)
  | b => ρ b
theorem Loc.setO_agree (ρ : Loc) (n : Nat) (o : Option (Nat × (Nat × Nat))) : Agree n ρ (ρ.setO n o) := by
  intro b hb
  cases b with
  | loc m => have := hb m rfl; simp [Loc.setO]; omega
  | glob g => rfl
  | sub b i j => rfl
theorem Loc.setO_self (ρ : Loc) (n : Nat) (o : Option (Nat × (Nat × Nat))) : ρ.setO n o (.loc n) = o := by simp [Loc.setO]

theorem delE_mem : ∀ {l : List Ent} {b : Blk} {e : Ent}, getE l b = some e → l.Pairwise (fun e e' => e.b ≠ e'.b) → ∀ x ∈ delE l b, x ∈ l ∧ x.b ≠ b
  | [], _, _, h, _, x, hx => by simp [getE] at h
  | a :: r, b, e, h, hp, x, hx => by
    unfold getE at h
    unfold delE at hx
    rw [List.pairwise_cons] at hp
    split at h
    · rename_i q
      rw [q] at hx
      have hb := Blk.beq_eq q
      exact ⟨List.mem_cons_of_mem _ hx, fun e' => hp.1 x hx (by rw [hb, e'])⟩
    · rename_i q
      rw [q] at hx
      simp only [List.mem_cons] at hx
      rcases hx with rfl | hx
      · refine ⟨List.mem_cons_self, fun e' => ?_⟩
        obtain ⟨h1, h2⟩ := getE_mem h
        exact hp.1 e h1 (by rw [e', h2])
      · have := delE_mem h hp.2 x hx
        exact ⟨List.mem_cons_of_mem _ this.1, this.2⟩

/-- a content that goes on under another name, in its own block -/
theorem HRel.move (h : HRel S ρ H w) {b : Blk} {e : Ent} {c : Cont} (he : getE H.ents b = some e) (hrw : e.rw = true)
    (hc : ∀ b0 b, InC c b0 b → b = b0) (hok : ContOk S c) (hl : Lies (ρ.setO H.next (ρ b)) (H.next + 1) w' true (.loc H.next) c) (hw : ∀ j, (∀ z, ρ b ≠ some (j, z)) → w'.heap[j]? = w.heap[j]?) (hs : w.heap.size ≤ w'.heap.size)
    (ho : w'.os = w.os) (ht : w'.tape = w.tape) (hout : w'.output = w.output) : After S ρ H w (ρ.setO H.next (ρ b)) ⟨⟨.loc H.next, true, c⟩ :: delE H.ents b, H.next + 1⟩ w' := by
  obtain ⟨hm, hkey⟩ := getE_mem he
  have hbk : b.isKey := hkey ▸ (h.key e hm).2
  have ha := Loc.setO_agree ρ H.next (ρ b)
  have hself := Loc.setO_self ρ H.next (ρ b)
  have hmem := delE_mem he h.keys
  have hsep : ∀ x ∈ H.ents, x.b ≠ b → ∀ b' k z z', InC x.c x.b b' → ρ b' = some (k, z') → ρ b = some (k, z) → False := by
    intro x hx hxb b' k z z' hin hb' hb
    have hne : b' ≠ b := fun q => by
      subst q
      exact hxb (hin.key hbk).symm
    exact h.sep x hx e hm (.inr hrw) b' b hin (hkey ▸ InC.self e.c e.b) hne k z' z hb' hb
  have hold : ∀ x ∈ H.ents, ∀ b', InC x.c x.b b' → (ρ.setO H.next (ρ b)) b' = ρ b' := fun x hx b' hin => ha b' (hin.lt (h.key x hx).1)
  refine ⟨by simp, ha, ⟨?_, ?_, ?_, ?_, fun g => h.glob g, ?_⟩, hs, ?_, ?_, ho, ht, hout⟩
  · intro x hx
    simp only [List.mem_cons] at hx
    rcases hx with rfl | hx
    · cases c with
      | raw vs => exact hl
      | arr E xs => exact hl
      | nest m d g s f xs =>
        refine ⟨hl, fun i hi j hj => ?_⟩
        have := hc (.loc H.next) (.sub (.loc H.next) i j) (.inr ⟨i, hi, j, hj, InC.self _ _⟩)
        simp at this
    · obtain ⟨q1, q2⟩ := hmem x hx
      exact (h.holds x q1).turn (h.key x q1).1 ha (by simp) fun b' k z hin e' => hw k fun z' q => hsep x q1 q2 b' k z' z hin e' q
  · intro x hx
    simp only [List.mem_cons] at hx
    rcases hx with rfl | hx
    · exact ⟨fun n hn => by simp [Blk.root] at hn; show n < H.next + 1; omega, trivial⟩
    · exact ⟨(h.key x (hmem x hx).1).1.mono (by simp), (h.key x (hmem x hx).1).2⟩
  · intro x hx y hy hor b1 b2 h1 h2 hne k1 z1 z2 e1 e2
    simp only [List.mem_cons] at hx hy
    rcases hx with rfl | hx
    · have q1 := hc _ _ h1
      subst q1
      rw [hself] at e1
      rcases hy with rfl | hy
      · exact hne (hc _ _ h2).symm
      · obtain ⟨q3, q4⟩ := hmem y hy
        rw [hold y q3 b2 h2] at e2
        exact hsep y q3 q4 b2 k1 z1 z2 h2 e2 e1
    · obtain ⟨q1, q2⟩ := hmem x hx
      rw [hold x q1 b1 h1] at e1
      rcases hy with rfl | hy
      · have q := hc _ _ h2
        subst q
        rw [hself] at e2
        exact hsep x q1 q2 b1 k1 z2 z1 h1 e1 e2
      · obtain ⟨q3, q4⟩ := hmem y hy
        rw [hold y q3 b2 h2] at e2
        exact h.sep x q1 y q3 hor b1 b2 h1 h2 hne k1 z1 z2 e1 e2
  · rw [List.pairwise_cons]
    refine ⟨fun x hx q => ?_, h.keys.sublist (delE_sub _ _)⟩
    have := (h.key x (hmem x hx).1).1 H.next (by rw [← q]; rfl)
    omega
  · intro x hx
    simp only [List.mem_cons] at hx
    rcases hx with rfl | hx
    · exact hok
    · exact h.enc x (hmem x hx).1
  · intro j hj hn
    refine hw j fun z q => hn ⟨e, hm, hrw, b, z, hkey ▸ InC.self e.c e.b, q⟩
  · rintro j ⟨x, hx, hxr, b', z', hin, hb'⟩
    right
    simp only [List.mem_cons] at hx
    rcases hx with rfl | hx
    · have q := hc _ _ hin
      subst q
      rw [hself] at hb'
      exact ⟨e, hm, hrw, b, z', hkey ▸ InC.self e.c e.b, hb'⟩
    · obtain ⟨q1, q2⟩ := hmem x hx
      rw [hold x q1 b' hin] at hb'
      exact ⟨x, q1, hxr, b', z', hin, hb'⟩

/-- a name for nothing -/
theorem HRel.nothing (h : HRel S ρ H w) {c : Cont} (hc : c.empty) (hin : ∀ b0 b, InC c b0 b → b = b0) (hok : ContOk S c) : After S ρ H w (ρ.setO H.next none) ⟨⟨.loc H.next, true, c⟩ :: H.ents, H.next + 1⟩ w := by
  have ha := Loc.setO_agree ρ H.next none
  have hself := Loc.setO_self ρ H.next none
  have hold : ∀ x ∈ H.ents, ∀ b', InC x.c x.b b' → (ρ.setO H.next none) b' = ρ b' := fun x hx b' hin => ha b' (hin.lt (h.key x hx).1)
  refine ⟨by simp, ha, ⟨?_, ?_, ?_, ?_, fun g => h.glob g, ?_⟩, Nat.le_refl _, fun _ _ _ => rfl, ?_, rfl, rfl, rfl⟩
  · intro x hx
    simp only [List.mem_cons] at hx
    rcases hx with rfl | hx
    · have hl : Lies (ρ.setO H.next none) (H.next + 1) w true (.loc H.next) c := by
        simp only [Lies, hself]; exact hc
      cases c with
      | raw vs => exact hl
      | arr E xs => exact hl
      | nest m d g s f xs =>
        refine ⟨hl, fun i hi j hj => ?_⟩
        have := hin (.loc H.next) (.sub (.loc H.next) i j) (.inr ⟨i, hi, j, hj, InC.self _ _⟩)
        simp at this
    · exact (h.holds x hx).turn (h.key x hx).1 ha (by simp) fun b' k z hin e' => rfl
  · intro x hx
    simp only [List.mem_cons] at hx
    rcases hx with rfl | hx
    · exact ⟨fun n hn => by simp [Blk.root] at hn; show n < H.next + 1; omega, trivial⟩
    · exact ⟨(h.key x hx).1.mono (by simp), (h.key x hx).2⟩
  · intro x hx y hy hor b1 b2 h1 h2 hne k1 z1 z2 e1 e2
    simp only [List.mem_cons] at hx hy
    rcases hx with rfl | hx
    · have q1 := hin _ _ h1
      subst q1
      rw [hself] at e1; simp at e1
    · rw [hold x hx b1 h1] at e1
      rcases hy with rfl | hy
      · have q := hin _ _ h2
        subst q
        rw [hself] at e2; simp at e2
      · rw [hold y hy b2 h2] at e2
        exact h.sep x hx y hy hor b1 b2 h1 h2 hne k1 z1 z2 e1 e2
  · rw [List.pairwise_cons]
    refine ⟨fun x hx q => ?_, h.keys⟩
    have := (h.key x hx).1 H.next (by rw [← q]; rfl)
    omega
  · intro x hx
    simp only [List.mem_cons] at hx
    rcases hx with rfl | hx
    · exact hok
    · exact h.enc x hx
  · rintro j ⟨x, hx, hxr, b', z', hin', hb'⟩
    right
    simp only [List.mem_cons] at hx
    rcases hx with rfl | hx
    · have q := hin _ _ hin'
      subst q
      rw [hself] at hb'; simp at hb'
    · rw [hold x hx b' hin'] at hb'
      exact ⟨x, hx, hxr, b', z', hin', hb'⟩

/-- less told, behind a turn -/
theorem After.sub {H' : Heap} (h : After S ρ H w ρ' H' w') {l : List Ent} (hl : l.Sublist H'.ents) : After S ρ H w ρ' ⟨l, H'.next⟩ w' :=
  ⟨h.next, h.agree, h.heap.sub hl, h.size, h.frame, fun k hk => h.own k (hk.sub hl), h.os, h.tape, h.output⟩

/-- the values of elements, one behind the other -/
def Vals (ρ : Loc) (N : Nat) {α : Type} (E : Enc α) (ys : List α) (rs : List Value) : Prop :=
  rs.length = ys.length * E.m ∧ ∀ t, t < ys.length → VRels ρ (E.cells (ys.getD t E.d)) ((rs.drop (t * E.m)).take E.m)

theorem Vals.take {α : Type} {E : Enc α} {ys : List α} {rs : List Value} (h : Vals ρ N E ys rs) (n : Nat) : Vals ρ N E (ys.take n) (rs.take (n * E.m)) := by
  refine ⟨by rw [List.length_take, List.length_take, h.1, Nat.mul_min_mul_right], fun t ht => ?_⟩
  simp only [List.length_take] at ht
  have e1 : (ys.take n).getD t E.d = ys.getD t E.d := by simp only [List.getD_eq_getElem?_getD, List.getElem?_take]; rw [if_pos (by omega)]
  have e2 : ((rs.take (n * E.m)).drop (t * E.m)).take E.m = (rs.drop (t * E.m)).take E.m := by
    have : (t + 1) * E.m ≤ n * E.m := Nat.mul_le_mul_right _ (by omega)
    rw [Nat.add_mul, Nat.one_mul] at this
    rw [List.drop_take, List.take_take, Nat.min_eq_left (by omega)]
  rw [e1, e2]
  exact h.2 t (by omega)

theorem Vals.one {T : TypeId} {α : Type} {E : Enc α} (hE : EncOk S.P T E) {ys : List α} {rs : List Value} (h : Vals ρ N E ys rs) : ∀ v ∈ rs, v.oneCell' = true := by
  intro v hv
  obtain ⟨i, hi, rfl⟩ := List.getElem_of_mem hv
  have hlt : i / E.m < ys.length := by rw [Nat.div_lt_iff_lt_mul hE.pos, ← h.1]; exact hi
  refine flatL_one (hE.flat _) (h.2 _ hlt) _ ?_
  have hmod := Nat.mod_lt i hE.pos
  have hdiv := Nat.div_add_mod i E.m
  rw [Nat.mul_comm] at hdiv
  refine List.mem_of_getElem? (i := i % E.m) ?_
  rw [List.getElem?_take, if_pos hmod, List.getElem?_drop, hdiv, List.getElem?_eq_getElem hi]

theorem vals_of_at {T : TypeId} {α : Type} {E : Enc α} (hE : EncOk S.P T E) {ys : List α} {a : Option Addr} (h : ElemsAt ρ N w E ys a) :
    ∃ rs, Vals ρ N E ys rs ∧ ∀ (P : Program) (n cap : Nat) (w0 : World), w0.heap = w.heap → n ≤ ys.length → (Builtin.firstCells E.m n (.slice a ys.length cap)).run P w0 = .ok (rs.take (n * E.m)).toArray w0 := by
  cases hy : ys with
  | nil =>
    refine ⟨[], ⟨by simp, fun t ht => by simp at ht⟩, fun P n cap w0 _ hn => ?_⟩
    have hn : n = 0 := by simpa using hn
    subst hn
    cases a with
    | none => simp [Builtin.firstCells]
    | some a => simp [Builtin.firstCells, loadCells, loadCellsFrom]
  | cons y ys' =>
    obtain ⟨k, off, rfl, hc⟩ := h (by rw [hy]; simp)
    rw [← hy]
    refine ⟨(List.range (ys.length * E.m)).map fun q => (w.cell? ⟨k, off + q, none⟩).getD undef, ⟨by simp, fun t ht => ?_⟩, fun P n cap w0 hw hn => ?_⟩
    · obtain ⟨rs, r1, _, r3⟩ := hc t ht
      have hrl := r1.length
      rw [hE.len] at hrl
      have e : ((((List.range (ys.length * E.m)).map fun q => (w.cell? ⟨k, off + q, none⟩).getD undef).drop (t * E.m)).take E.m) = rs := by
        have : (t + 1) * E.m ≤ ys.length * E.m := Nat.mul_le_mul_right _ (by omega)
        rw [Nat.add_mul, Nat.one_mul] at this
        apply List.ext_getElem
        · simp; omega
        · intro i h1 h2
          have := r3 i _ (List.getElem?_eq_getElem h2)
          simp only [List.getElem_take, List.getElem_drop, List.getElem_map, List.getElem_range]
          rw [← Nat.add_assoc, this]; rfl
      rw [e]; exact r1
    · have hcell : ∀ q, q < ys.length * E.m → w0.cell? ⟨k, off + q, none⟩ = some ((w.cell? ⟨k, off + q, none⟩).getD undef) := by
        intro q hq
        have hlt : q / E.m < ys.length := by rw [Nat.div_lt_iff_lt_mul hE.pos]; exact hq
        obtain ⟨rs, r1, _, r3⟩ := hc _ hlt
        have hrl := r1.length
        rw [hE.len] at hrl
        have hmod := Nat.mod_lt q hE.pos
        have hdiv := Nat.div_add_mod q E.m
        rw [Nat.mul_comm] at hdiv
        have := r3 (q % E.m) _ (List.getElem?_eq_getElem (by omega))
        rw [Nat.add_assoc, hdiv] at this
        rw [this]
        have e : w0.cell? ⟨k, off + q, none⟩ = w.cell? ⟨k, off + q, none⟩ := by simp only [World.cell?, hw]
        rw [e, this]; rfl
      have hle : n * E.m ≤ ys.length * E.m := Nat.mul_le_mul_right _ hn
      have := run_loadCells (P := P) w0 ⟨k, off, none⟩ (n * E.m) (fun q => (w.cell? ⟨k, off + q, none⟩).getD undef) (fun j hj => by
        simp only [Addr.add]
        split
        · rename_i q; subst q; simpa using hcell 0 (by omega)
        · exact hcell j (by omega))
      simp only [Builtin.firstCells, this]
      congr 2
      rw [← List.map_take, List.take_range, Nat.min_eq_left hle]

/-- what is appended or copied: its values, and that the machine tells them -/
theorem src_sound {e T : TypeId} {α : Type} {E : Enc α} (hE : EncOk S.P e E) {x : AV} {r : Value} {K : List α → Prop} (hH : HRel S ρ H w) (h : srcA S T E x H K) (hx : VRel ρ x r) :
    ∃ ys rs, K ys ∧ Vals ρ N E ys rs ∧ ((∃ el, S.P.underlying T = some (.slice el)) ∨ S.P.underlying T = some .string) ∧ (∀ w0 : World, (Builtin.lenOf r).run S.P w0 = .ok ys.length w0) ∧ (ys.length ≤ 9223372036854775807) ∧
      ∀ (n : Nat) (w0 : World), w0.heap = w.heap → n ≤ ys.length → (Builtin.firstCells E.m n r).run S.P w0 = .ok (rs.take (n * E.m)).toArray w0 := by
  unfold srcA at h
  split at h
  · rename_i el hT
    obtain ⟨ys, a, cap, hK, er, hle, hcap, hat⟩ := elems_sound hH h hx
    obtain ⟨rs, h1, h2⟩ := vals_of_at (N := H.next) hE hat
    have h1 : Vals ρ N E ys rs := ⟨h1.1, h1.2⟩
    exact ⟨ys, rs, hK, h1, .inl ⟨_, hT⟩, fun w0 => by rw [er]; rfl, by omega, fun n w0 hw hn => by rw [er]; exact h2 S.P n cap w0 hw hn⟩
  · rename_i hT
    split at h
    · rename_i t
      obtain ⟨ys, ⟨hm, hys⟩, hK⟩ := h
      obtain ⟨a, er, rfl, hb⟩ := hx
      have hlen : ys.length = a.size := by have := congrArg List.length hys; simpa [bytesL_length] using this.symm
      have hd : (a.data.map fun b => Value.int .u8 b.toNat).toList = (bytesL a).map (Value.int .u8) := by simp [bytesL, Function.comp_def]
      refine ⟨ys, (bytesL a).map (Value.int .u8), hK, ⟨by simp [hm, hlen, bytesL_length], fun j hj => ?_⟩, .inr hT, fun w0 => by rw [er, hlen]; rfl, by omega, fun n w0 _ hn => ?_⟩
      · have hj' : j < (bytesL a).length := by rw [bytesL_length]; omega
        have e1 : E.cells (ys.getD j E.d) = [.int .u8 ((bytesL a)[j])] := by
          have := congrArg (fun l => l[j]?) hys
          simp only [List.getElem?_map, List.getElem?_eq_getElem hj, List.getElem?_eq_getElem hj', Option.map_some, Option.some.injEq] at this
          rw [List.getD_eq_getElem?_getD, List.getElem?_eq_getElem hj, Option.getD_some, ← this]
        have e2 : ((((bytesL a).map (Value.int .u8)).drop (j * E.m)).take E.m) = [Value.int .u8 ((bytesL a)[j])] := by
          rw [hm, Nat.mul_one, List.drop_eq_getElem_cons (by simpa using hj')]
          simp
        rw [e1, e2]
        exact ⟨_, _, rfl, rfl, rfl⟩
      · rw [er, hm, Nat.mul_one]
        simp only [Builtin.firstCells, Sem.run_pure]
        congr 1
        rw [← Array.toList_inj]
        have e3 : ((a.extract 0 n).data.map fun b => Value.int .u8 b.toNat).toList = (bytesL (a.extract 0 n)).map (Value.int .u8) := by simp [bytesL, Function.comp_def]
        rw [e3, bytesL_extract]
        simp
    · exact h.elim
  · exact h.elim

theorem Vals.lie {T : TypeId} {α : Type} {E : Enc α} (hE : EncOk S.P T E) {ys : List α} {rs rest : List Value} (h : Vals ρ N E ys rs) {arr : Array Value} (ha : arr.toList = rs ++ rest) (b : Blk) : CellsLie ρ N arr b (.arr E ys) := by
  have hl := congrArg List.length ha
  simp only [Array.length_toList, List.length_append, h.1] at hl
  refine ⟨by omega, fun t ht => ⟨?_, hE.plain _ _⟩⟩
  show VRels ρ (E.cells (ys.getD t E.d)) _
  have : (t + 1) * E.m ≤ ys.length * E.m := Nat.mul_le_mul_right _ (by omega)
  rw [Nat.add_mul, Nat.one_mul] at this
  have hr := h.1
  rw [ha, List.drop_append_of_le_length (by omega), List.take_append_of_le_length (by rw [List.length_drop]; omega)]
  exact h.2 t ht

theorem lie_vals {T : TypeId} {α : Type} {E : Enc α} (hE : EncOk S.P T E) {ys : List α} {arr : Array Value} {b : Blk} (h : CellsLie ρ N arr b (.arr E ys)) : Vals ρ N E ys (arr.toList.take (ys.length * E.m)) := by
  obtain ⟨h1, h2⟩ := h
  refine ⟨by simp; omega, fun t ht => ?_⟩
  have : (t + 1) * E.m ≤ ys.length * E.m := Nat.mul_le_mul_right _ (by omega)
  rw [Nat.add_mul, Nat.one_mul] at this
  rw [List.drop_take, List.take_take, Nat.min_eq_left (by omega)]
  exact (h2 t ht).1

theorem Vals.append {T : TypeId} {α : Type} {E : Enc α} (hE : EncOk S.P T E) {xs ys : List α} {rs ss : List Value} (h : Vals ρ N E xs rs) (k : Vals ρ N E ys ss) : Vals ρ N E (xs ++ ys) (rs ++ ss) := by
  refine ⟨by rw [List.length_append, List.length_append, h.1, k.1, Nat.add_mul], fun t ht => ?_⟩
  rw [List.length_append] at ht
  have hr := h.1
  rcases Nat.lt_or_ge t xs.length with q | q
  · have : (t + 1) * E.m ≤ xs.length * E.m := Nat.mul_le_mul_right _ (by omega)
    rw [Nat.add_mul, Nat.one_mul] at this
    rw [List.drop_append_of_le_length (by omega), List.take_append_of_le_length (by rw [List.length_drop]; omega)]
    have e : (xs ++ ys).getD t E.d = xs.getD t E.d := by simp only [List.getD_eq_getElem?_getD, List.getElem?_append_left q]
    rw [e]; exact h.2 t q
  · obtain ⟨u, rfl⟩ : ∃ u, t = xs.length + u := ⟨t - xs.length, by omega⟩
    have e : (xs ++ ys).getD (xs.length + u) E.d = ys.getD u E.d := by simp only [List.getD_eq_getElem?_getD, List.getElem?_append_right (Nat.le_add_right _ _), Nat.add_sub_cancel_left]
    rw [e, Nat.add_mul, ← hr, List.drop_append, List.drop_of_length_le (by omega), List.nil_append, Nat.add_sub_cancel_left]
    exact k.2 u (by omega)
end
end Go.Vm
