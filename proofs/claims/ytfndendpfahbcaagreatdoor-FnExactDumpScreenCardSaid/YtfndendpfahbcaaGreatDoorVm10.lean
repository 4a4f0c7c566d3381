/- An abstract machine over the loaded code: how its memory turns. -/
import Derived.Test.YtfndendpfahbcaaGreatDoorVm9
set_option linter.unusedSimpArgs false
set_option linter.unusedVariables false
namespace Go.Vm
open Go.RowKit
section
variable {S : Seat} {ρ ρ' : Loc} {H : Heap} {w w' : World} {N N' : Nat}

theorem InC.root : ∀ {c : Cont} {b b' : Blk}, InC c b b' → b'.root = b.root
  | .raw _, _, _, h => by rw [show _ = _ from h]
  | .arr _ _, _, _, h => by rw [show _ = _ from h]
  | .nest m d g s f xs, b, b', h => by
    rcases h with h | ⟨i, hi, j, hj, h⟩
    · rw [h]
    · exact (InC.root h).trans rfl
theorem InC.lt {c : Cont} {b b' : Blk} (h : InC c b b') (hb : b.lt N) : b'.lt N := fun n hn => hb n (by rw [← h.root]; exact hn)
theorem InC.self (c : Cont) (b : Blk) : InC c b b := by cases c <;> simp [InC]

theorem InC.key : ∀ {c : Cont} {b b' : Blk}, InC c b b' → b'.isKey → b' = b
  | .raw _, _, _, h, _ => h
  | .arr _ _, _, _, h, _ => h
  | .nest m d g s f xs, b, b', h, hk => by
    rcases h with h | ⟨i, hi, j, hj, h⟩
    · exact h
    · have : ∀ {c : Cont} {b b' : Blk}, InC c b b' → b = b' ∨ ¬ b'.isKey := by
        intro c
        induction c with
        | raw vs => intro b b' h; exact .inl h.symm
        | arr E xs => intro b b' h; exact .inl h.symm
        | nest m d g s f xs ih =>
          intro b b' h
          rcases h with h | ⟨i, hi, j, hj, h⟩
          · exact .inl h.symm
          · rcases ih _ _ h with q | q
            · right; rw [← q]; exact id
            · exact .inr q
      rcases this h with q | q
      · rw [← q] at hk; exact hk.elim
      · exact absurd hk q

theorem ElemsLie.agree {arr : Array Value} {m n : Nat} {cell : Nat → List AV} (h : ElemsLie ρ N arr m n cell) (ha : Agree N ρ ρ') (hN : N ≤ N') : ElemsLie ρ' N' arr m n cell :=
  ⟨h.1, fun i hi => ⟨VRels.agree ha (h.2 i hi).2 (h.2 i hi).1, AV.lts.mono hN (h.2 i hi).2⟩⟩
theorem CellsLie.agree {arr : Array Value} {b b2 : Blk} {c : Cont} (h : CellsLie ρ N arr b c) (ha : Agree N ρ ρ') (hN : N ≤ N') (hb : b = b2) : CellsLie ρ' N' arr b2 c := by
  subst hb
  cases c with
  | raw vs => exact ⟨h.1, VRels.agree ha h.2.2 h.2.1, AV.lts.mono hN h.2.2⟩
  | arr E xs => exact ElemsLie.agree h ha hN
  | nest m d g s f xs => exact ElemsLie.agree h ha hN

theorem Lies.turn {rw : Bool} {c : Cont} {b : Blk} (h : Lies ρ N w rw b c) (hb : b.lt N) (ha : Agree N ρ ρ') (hN : N ≤ N') (hw : ∀ k z, ρ b = some (k, z) → w'.heap[k]? = w.heap[k]?) : Lies ρ' N' w' rw b c := by
  unfold Lies at h ⊢
  rw [ha b hb]
  split at h
  · exact h
  · rename_i k z e
    obtain ⟨arr, T, fz, h1, h2, h3, h4⟩ := h
    exact ⟨arr, T, fz, (hw k z e).trans h1, h2, h3, h4.agree ha hN rfl⟩

theorem Holds.turn : ∀ {rw : Bool} {c : Cont} {b : Blk}, Holds ρ N w rw c b → b.lt N → Agree N ρ ρ' → N ≤ N' →
    (∀ b' k z, InC c b b' → ρ b' = some (k, z) → w'.heap[k]? = w.heap[k]?) → Holds ρ' N' w' rw c b
  | rw, .raw _, b, h, hb, ha, hN, hw => Lies.turn h hb ha hN fun k z e => hw b k z rfl e
  | rw, .arr _ _, b, h, hb, ha, hN, hw => Lies.turn h hb ha hN fun k z e => hw b k z rfl e
  | rw, .nest m d g s f xs, b, h, hb, ha, hN, hw =>
    ⟨Lies.turn h.1 hb ha hN fun k z e => hw b k z (.inl rfl) e, fun i hi j hj =>
      Holds.turn (h.2 i hi j hj) hb ha hN fun b' k z hb' e => hw b' k z (.inr ⟨i, hi, j, hj, hb'⟩) e⟩

/-- may the block be written? -/
def RwB (ρ : Loc) (H : Heap) (k : Nat) : Prop := ∃ e ∈ H.ents, e.rw = true ∧ ∃ b z, InC e.c e.b b ∧ ρ b = some (k, z)

/-- how memory may have turned -/
structure After (S : Seat) (ρ : Loc) (H : Heap) (w : World) (ρ' : Loc) (H' : Heap) (w' : World) : Prop where
  next : H.next ≤ H'.next
  agree : Agree H.next ρ ρ'
  heap : HRel S ρ' H' w'
  size : w.heap.size ≤ w'.heap.size
  frame : ∀ k, k < w.heap.size → ¬ RwB ρ H k → w'.heap[k]? = w.heap[k]?
  own : ∀ k, RwB ρ' H' k → w.heap.size ≤ k ∨ RwB ρ H k
  os : w'.os = w.os
  tape : w'.tape = w.tape
  output : w'.output = w.output

theorem After.refl (h : HRel S ρ H w) : After S ρ H w ρ H w :=
  ⟨Nat.le_refl _, .refl _ _, h, Nat.le_refl _, fun _ _ _ => rfl, fun _ h => .inr h, rfl, rfl, rfl⟩

theorem After.trans {ρ'' : Loc} {H' H'' : Heap} {w'' : World} (h : After S ρ H w ρ' H' w') (k : After S ρ' H' w' ρ'' H'' w'') : After S ρ H w ρ'' H'' w'' where
  next := Nat.le_trans h.next k.next
  agree := h.agree.trans k.agree h.next
  heap := k.heap
  size := Nat.le_trans h.size k.size
  frame := fun i hi hn => by
    rw [← h.frame i hi hn]
    exact k.frame i (Nat.lt_of_lt_of_le hi h.size) fun q => by
      rcases h.own i q with q | q
      · omega
      · exact hn q
  own := fun i hi => by
    rcases k.own i hi with q | q
    · left; have := h.size; omega
    · exact h.own i q
  os := k.os.trans h.os
  tape := k.tape.trans h.tape
  output := k.output.trans h.output

def setE : List Ent → Blk → Cont → List Ent
  | [], _, _ => []
  | e :: r, b, c => match Blk.beq e.b b with
    | true => ⟨e.b, e.rw, c⟩ :: r
    | false => e :: setE r b c
theorem setK_out : ∀ {l : List Ent} {b : Blk} {c : Cont} {K : List Ent → Prop}, setK l b c K → K (setE l b c)
  | [], _, _, _, h => h
  | e :: r, b, c, K, h => by
    unfold setK at h
    unfold setE
    split at h
    · rename_i q; rw [q]; exact h
    · rename_i q; rw [q]; exact setK_out (K := fun r => K (e :: r)) h
theorem setH_out {H : Heap} {b : Blk} {c : Cont} {K : Heap → Prop} (h : setH H b c K) : K ⟨setE H.ents b c, H.next⟩ := by
  obtain ⟨l, nx⟩ := H
  have h : c.force fun c => setK l b c fun l => K ⟨l, nx⟩ := h
  exact setK_out (K := fun l => K ⟨l, nx⟩) (Cont.force_out h)
def delE : List Ent → Blk → List Ent
  | [], _ => []
  | e :: r, b => match Blk.beq e.b b with
    | true => r
    | false => e :: delE r b
theorem delK_out : ∀ {l : List Ent} {b : Blk} {K : List Ent → Prop}, delK l b K → K (delE l b)
  | [], _, _, h => h
  | e :: r, b, K, h => by
    unfold delK at h
    unfold delE
    split at h
    · rename_i q; rw [q]; exact h
    · rename_i q; rw [q]; exact delK_out (K := fun r => K (e :: r)) h
theorem delE_sub : ∀ (l : List Ent) (b : Blk), (delE l b).Sublist l
  | [], _ => .slnil
  | e :: r, b => by
    unfold delE
    split
    · exact List.sublist_cons_self _ _
    · exact (delE_sub r b).cons_cons _

theorem setE_mem : ∀ {l : List Ent} {b : Blk} {c : Cont} {e : Ent}, getE l b = some e → l.Pairwise (fun e e' => e.b ≠ e'.b) →
    ∀ x ∈ setE l b c, x = ⟨b, e.rw, c⟩ ∨ (x ∈ l ∧ x.b ≠ b)
  | [], _, _, _, h, _, x, hx => by simp [getE] at h
  | a :: r, b, c, e, h, hp, x, hx => by
    unfold getE at h
    unfold setE at hx
    rw [List.pairwise_cons] at hp
    split at h
    · rename_i q
      rw [q] at hx
      simp at h; subst h
      have hb := Blk.beq_eq q
      simp only [List.mem_cons] at hx
      rcases hx with rfl | hx
      · left; rw [hb]
      · right; exact ⟨List.mem_cons_of_mem _ hx, fun e' => hp.1 x hx (by rw [hb, e'])⟩
    · rename_i q
      rw [q] at hx
      simp only [List.mem_cons] at hx
      rcases hx with rfl | hx
      · right
        refine ⟨List.mem_cons_self, fun e' => ?_⟩
        obtain ⟨h1, h2⟩ := getE_mem h
        exact hp.1 e h1 (by rw [e', h2])
      · rcases setE_mem h hp.2 x hx with q | q
        · exact .inl q
        · exact .inr ⟨List.mem_cons_of_mem _ q.1, q.2⟩
theorem setE_keys : ∀ {l : List Ent} {b : Blk} {c : Cont}, l.Pairwise (fun e e' => e.b ≠ e'.b) → (setE l b c).Pairwise (fun e e' => e.b ≠ e'.b) := by
  intro l b c h
  have hm : (setE l b c).map (·.b) = l.map (·.b) := by
    clear h
    induction l with
    | nil => rfl
    | cons e r ih =>
      unfold setE
      split
      · simp
      · simp [ih]
  have := List.pairwise_map.2 h
  rw [← hm] at this
  exact List.pairwise_map.1 this

/-- a block's content turned -/
theorem HRel.update (h : HRel S ρ H w) {b : Blk} {e : Ent} {c : Cont} {k : Nat} {z : Nat × Nat} (he : getE H.ents b = some e) (hrw : e.rw = true) (hb : ρ b = some (k, z))
    (hc : ∀ b', InC c b b' → b' = b) (hok : ContOk S c) (hl : Lies ρ H.next w' true b c) (hw : ∀ j, j ≠ k → w'.heap[j]? = w.heap[j]?) (hh : Holds ρ H.next w' true c b) (hs : w.heap.size ≤ w'.heap.size)
    (ho : w'.os = w.os) (ht : w'.tape = w.tape) (hout : w'.output = w.output) : After S ρ H w ρ ⟨setE H.ents b c, H.next⟩ w' := by
  obtain ⟨hm, hkey⟩ := getE_mem he
  have hbk : b.isKey := hkey ▸ (h.key e hm).2
  have hsep : ∀ x ∈ H.ents, x.b ≠ b → ∀ b' z', InC x.c x.b b' → ρ b' = some (k, z') → False := by
    intro x hx hxb b' z' hin hb'
    have hne : b' ≠ b := fun q => by
      subst q
      exact hxb (hin.key hbk).symm
    exact h.sep x hx e hm (.inr hrw) b' b hin (hkey ▸ InC.self e.c e.b) hne k z' z hb' hb
  have hmem := setE_mem (c := c) he h.keys
  refine ⟨Nat.le_refl _, .refl _ _, ⟨?_, ?_, ?_, setE_keys h.keys, h.glob, fun x hx => ?_⟩, hs, ?_, ?_, ho, ht, hout⟩
  · intro x hx
    rcases hmem x hx with rfl | ⟨q1, q2⟩
    · simpa [hrw] using hh
    · exact (h.holds x q1).turn (h.key x q1).1 (.refl _ _) (Nat.le_refl _) fun b' k' z' hin e' => hw k' fun q => hsep x q1 q2 b' z' hin (q ▸ e')
  · intro x hx
    rcases hmem x hx with rfl | ⟨q1, q2⟩
    · exact hkey ▸ h.key e hm
    · exact h.key x q1
  · intro x hx y hy hor b1 b2 h1 h2 hne k1 z1 z2 e1 e2
    rcases hmem x hx with rfl | ⟨q1, q2⟩
    · have : b1 = b := hc b1 h1
      subst this
      rcases hmem y hy with rfl | ⟨q3, q4⟩
      · exact hne (hc b2 h2).symm
      · rw [hb] at e1
        simp at e1
        obtain ⟨rfl, rfl⟩ := e1
        exact hsep y q3 q4 b2 z2 h2 e2
    · rcases hmem y hy with rfl | ⟨q3, q4⟩
      · have : b2 = b := hc b2 h2
        subst this
        rw [hb] at e2
        simp at e2
        obtain ⟨rfl, rfl⟩ := e2
        exact hsep x q1 q2 b1 z1 h1 e1
      · exact h.sep x q1 y q3 hor b1 b2 h1 h2 hne k1 z1 z2 e1 e2
  · rcases hmem x hx with rfl | ⟨q1, _⟩
    · exact hok
    · exact h.enc x q1
  · intro j hj hn
    refine hw j fun q => hn ⟨e, hm, hrw, b, z, hkey ▸ InC.self e.c e.b, q ▸ hb⟩
  · rintro j ⟨x, hx, hxr, b', z', hin, hb'⟩
    right
    rcases hmem x hx with rfl | ⟨q1, q2⟩
    · have : b' = b := hc b' hin
      subst this
      exact ⟨e, hm, hrw, b', z', hkey ▸ InC.self e.c e.b, hb'⟩
    · exact ⟨x, q1, hxr, b', z', hin, hb'⟩

def Loc.set (ρ : Loc) (n k : Nat) (z : Nat × Nat) : Loc := fun b => match b with
  | .loc m => if m = n then some (k, z) else ρ (.loc m)
  | b => ρ b
theorem Loc.set_agree (ρ : Loc) (n k : Nat) (z : Nat × Nat) : Agree n ρ (ρ.set n k z) := by
  intro b hb
  cases b with
  | loc m => have := hb m rfl; simp [Loc.set]; omega
  | glob g => rfl
  | sub b i j => rfl
theorem Loc.set_self (ρ : Loc) (n k : Nat) (z : Nat × Nat) : ρ.set n k z (.loc n) = some (k, z) := by simp [Loc.set]

/-- a block more -/
theorem HRel.push (h : HRel S ρ H w) {c : Cont} {arr : Array Value} {T : TypeId} {fz : Nat × Nat} (hg : Grew w w' (.cells arr T fz)) (hf : fz.1 = fz.2 ∨ arr.size ≤ fz.1)
    (hc : ∀ b0 b, InC c b0 b → b = b0) (hok : ContOk S c) (hl : ∀ b, CellsLie ρ H.next arr b c) : After S ρ H w (ρ.set H.next w.heap.size (0, arr.size)) ⟨⟨.loc H.next, true, c⟩ :: H.ents, H.next + 1⟩ w' := by
  have ha := Loc.set_agree ρ H.next w.heap.size (0, arr.size)
  have hbound : ∀ x ∈ H.ents, ∀ b' k z, InC x.c x.b b' → ρ b' = some (k, z) → Lies ρ H.next w x.rw b' x.c ∨ True := fun _ _ _ _ _ _ _ => .inr trivial
  have hself := Loc.set_self ρ H.next w.heap.size (0, arr.size)
  -- a block that is told of lies in the heap
  have hlt : ∀ {rw : Bool} {c : Cont} {b : Blk}, Holds ρ H.next w rw c b → ∀ b' k z, InC c b b' → ρ b' = some (k, z) → k < w.heap.size := by
    intro rw c
    have one : ∀ {c : Cont} {b : Blk} {k : Nat} {z : Nat × Nat}, Lies ρ H.next w rw b c → ρ b = some (k, z) → k < w.heap.size := by
      intro c b k z hl hb
      simp only [Lies, hb] at hl
      obtain ⟨arr, T, fz, h1, _⟩ := hl
      rcases Nat.lt_or_ge k w.heap.size with q | q
      · exact q
      · rw [Array.getElem?_eq_none q] at h1; simp at h1
    induction c with
    | raw vs => intro b hh b' k z hin hb; rw [show b' = b from hin] at hb; exact one hh hb
    | arr E xs => intro b hh b' k z hin hb; rw [show b' = b from hin] at hb; exact one hh hb
    | nest m d g s f xs ih =>
      intro b hh b' k z hin hb
      rcases hin with q | ⟨i, hi, j, hj, hin⟩
      · rw [q] at hb; exact one hh.1 hb
      · exact ih _ _ (hh.2 i hi j hj) b' k z hin hb
  have hold : ∀ x ∈ H.ents, ∀ b' k z, InC x.c x.b b' → (ρ.set H.next w.heap.size (0, arr.size)) b' = some (k, z) → ρ b' = some (k, z) ∧ k < w.heap.size := by
    intro x hx b' k z hin e
    rw [ha b' (hin.lt (h.key x hx).1)] at e
    exact ⟨e, hlt (h.holds x hx) b' k z hin e⟩
  refine ⟨by simp, ha, ⟨?_, ?_, ?_, ?_, ?_, fun x hx => ?_⟩, by rw [hg.size]; omega, fun j hj _ => hg.old j hj, ?_, hg.os, hg.tape, hg.output⟩
  · intro x hx
    simp only [List.mem_cons] at hx
    rcases hx with rfl | hx
    · have hlies : Lies (ρ.set H.next w.heap.size (0, arr.size)) (H.next + 1) w' true (.loc H.next) c := by
        simp only [Lies, hself]
        have hd := own_all arr
        exact ⟨arr, T, fz, hg.new, by simp, fun _ => hf, by rw [hd]; exact (hl _).agree ha (by omega) rfl⟩
      cases c with
      | raw vs => exact hlies
      | arr E xs => exact hlies
      | nest m d g s f xs =>
        refine ⟨hlies, fun i hi j hj => ?_⟩
        have := hc (.loc H.next) (.sub (.loc H.next) i j) (.inr ⟨i, hi, j, hj, InC.self _ _⟩)
        simp at this
    · exact (h.holds x hx).turn (h.key x hx).1 ha (by simp) fun b' k z hin e => hg.old k (hlt (h.holds x hx) b' k z hin e)
  · intro x hx
    simp only [List.mem_cons] at hx
    rcases hx with rfl | hx
    · exact ⟨fun n hn => by simp [Blk.root] at hn; show n < H.next + 1; omega, trivial⟩
    · exact ⟨(h.key x hx).1.mono (by simp), (h.key x hx).2⟩
  · intro x hx y hy hor b1 b2 h1 h2 hne k1 z1 z2 e1 e2
    simp only [List.mem_cons] at hx hy
    rcases hx with rfl | hx
    · have q1 := hc _ _ h1
      subst q1
      rw [hself] at e1; simp at e1
      rcases hy with rfl | hy
      · exact hne (hc _ _ h2).symm
      · have := (hold y hy b2 k1 z2 h2 e2).2
        omega
    · rcases hy with rfl | hy
      · have q2 := hc _ _ h2
        subst q2
        rw [hself] at e2; simp at e2
        have := (hold x hx b1 k1 z1 h1 e1).2
        omega
      · exact h.sep x hx y hy hor b1 b2 h1 h2 hne k1 z1 z2 (hold x hx b1 k1 z1 h1 e1).1 (hold y hy b2 k1 z2 h2 e2).1
  · rw [List.pairwise_cons]
    refine ⟨fun x hx q => ?_, h.keys⟩
    have := (h.key x hx).1 H.next (by rw [← q]; rfl)
    omega
  · intro g
    obtain ⟨z, hz⟩ := h.glob g
    exact ⟨z, hz⟩
  · simp only [List.mem_cons] at hx
    rcases hx with rfl | hx
    · exact hok
    · exact h.enc x hx
  · rintro k ⟨x, hx, hxr, b', z, hin, hb'⟩
    simp only [List.mem_cons] at hx
    rcases hx with rfl | hx
    · have q := hc _ _ hin
      subst q
      rw [hself] at hb'; simp at hb'
      left; omega
    · right; exact ⟨x, hx, hxr, b', z, hin, (hold x hx b' k z hin hb').1⟩

/-- less told -/
theorem HRel.sub (h : HRel S ρ H w) {l : List Ent} (hl : l.Sublist H.ents) : HRel S ρ ⟨l, H.next⟩ w :=
  ⟨fun e he => h.holds e (hl.subset he), fun e he => h.key e (hl.subset he), fun e he e' he' => h.sep e (hl.subset he) e' (hl.subset he'), h.keys.sublist hl, h.glob, fun e he => h.enc e (hl.subset he)⟩
theorem RwB.sub {l : List Ent} (hl : l.Sublist H.ents) {k : Nat} (h : RwB ρ ⟨l, H.next⟩ k) : RwB ρ H k := by
  obtain ⟨e, he, r⟩ := h
  exact ⟨e, hl.subset he, r⟩
end
end Go.Vm
