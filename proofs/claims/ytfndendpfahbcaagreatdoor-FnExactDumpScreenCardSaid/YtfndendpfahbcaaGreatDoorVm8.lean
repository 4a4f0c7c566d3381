/- An abstract machine over the loaded code: what its memory says of the machine's own. -/
import Derived.Test.YtfndendpfahbcaaGreatDoorVm7
import Derived.Laws.Cells
set_option linter.unusedSimpArgs false
set_option linter.unusedVariables false
namespace Go.Vm
open Go.RowKit

def Cont.empty : Cont → Prop
  | .raw vs => vs = []
  | .arr _ xs => xs = []
  | .nest _ _ _ _ _ xs => xs = []

def ElemsLie (ρ : Loc) (N : Nat) (arr : Array Value) (m n : Nat) (cell : Nat → List AV) : Prop :=
  n * m ≤ arr.size ∧ ∀ i, i < n → VRels ρ (cell i) ((arr.toList.drop (i * m)).take m) ∧ AV.lts N (cell i)

/-- a content lies in cells -/
def CellsLie (ρ : Loc) (N : Nat) (arr : Array Value) (b : Blk) : Cont → Prop
  | .raw vs => vs.length ≤ arr.size ∧ VRels ρ vs (arr.toList.take vs.length) ∧ AV.lts N vs
  | .arr E xs => ElemsLie ρ N arr E.m xs.length fun i => E.cells (xs.getD i E.d)
  | .nest m d g _ _ xs => ElemsLie ρ N arr m xs.length fun i => g b i (xs.getD i d)

/-- the cells that are a block's own -/
def own (arr : Array Value) (z : Nat × Nat) : Array Value := ((arr.toList.drop z.1).take z.2).toArray
theorem own_size {arr : Array Value} {z : Nat × Nat} (h : z.1 + z.2 ≤ arr.size) : (own arr z).size = z.2 := by
  simp [own]; omega
theorem own_all (arr : Array Value) : own arr (0, arr.size) = arr := by
  unfold own
  simp only [List.drop_zero]
  rw [List.take_of_length_le (by simp)]
theorem own_get {arr : Array Value} {z : Nat × Nat} {o : Nat} {r : Value} (h : (own arr z).toList[o]? = some r) : arr.toList[z.1 + o]? = some r := by
  unfold own at h
  simp only at h
  rw [List.getElem?_take] at h
  split at h
  · simpa using h
  · simp at h
theorem own_splice {arr arr' : Array Value} {news : List Value} {z : Nat × Nat} {q : Nat} (h : q + news.length ≤ z.2) (hn : z.1 + z.2 ≤ arr.size)
    (ha : arr'.toList = arr.toList.take (z.1 + q) ++ (news ++ arr.toList.drop (z.1 + q + news.length))) :
    (own arr' z).toList = (own arr z).toList.take q ++ (news ++ (own arr z).toList.drop (q + news.length)) := by
  unfold own
  simp only
  rw [ha]
  have hl : arr.toList.length = arr.size := by simp
  have e1 : (arr.toList.take (z.1 + q) ++ (news ++ arr.toList.drop (z.1 + q + news.length))).drop z.1 = (arr.toList.drop z.1).take q ++ (news ++ (arr.toList.drop z.1).drop (q + news.length)) := by
    rw [List.drop_append_of_le_length (by simp; omega), List.drop_take, Nat.add_sub_cancel_left, List.drop_drop, Nat.add_assoc]
  rw [e1]
  have h1 : ((arr.toList.drop z.1).take q).length = q := by simp; omega
  rw [List.take_append, h1, List.take_of_length_le (show ((arr.toList.drop z.1).take q).length ≤ z.2 by omega), List.take_append, List.take_of_length_le (show news.length ≤ z.2 - q by omega), List.take_take, Nat.min_eq_left (by omega), List.drop_take, Nat.sub_sub]

def Lies (ρ : Loc) (N : Nat) (w : World) (rw : Bool) (b : Blk) (c : Cont) : Prop :=
  match ρ b with
  | none => c.empty
  | some (k, z) => ∃ arr T fz, w.heap[k]? = some (.cells arr T fz) ∧ z.1 + z.2 ≤ arr.size ∧ (rw = true → fz.1 = fz.2 ∨ arr.size ≤ fz.1) ∧ CellsLie ρ N (own arr z) b c

def Holds (ρ : Loc) (N : Nat) (w : World) (rw : Bool) : Cont → Blk → Prop
  | .raw vs, b => Lies ρ N w rw b (.raw vs)
  | .arr E xs, b => Lies ρ N w rw b (.arr E xs)
  | .nest m d g s f xs, b => Lies ρ N w rw b (.nest m d g s f xs) ∧ ∀ i, i < xs.length → ∀ j, j ∈ s → Holds ρ N w rw (f (xs.getD i d) j) (.sub b i j)

/-- the blocks of a content -/
def InC : Cont → Blk → Blk → Prop
  | .raw _, b0, b => b = b0
  | .arr _ _, b0, b => b = b0
  | .nest _ d _ s f xs, b0, b => b = b0 ∨ ∃ i, i < xs.length ∧ ∃ j, j ∈ s ∧ InC (f (xs.getD i d) j) (.sub b0 i j) b

def Blk.isKey : Blk → Prop
  | .sub _ _ _ => False
  | _ => True

/-- its elements are told as their encoding tells them -/
def ContOk (S : Seat) : Cont → Prop
  | .arr E _ => ∃ T, EncOk S.P T E
  | _ => True

structure HRel (S : Seat) (ρ : Loc) (H : Heap) (w : World) : Prop where
  holds : ∀ e ∈ H.ents, Holds ρ H.next w e.rw e.c e.b
  key : ∀ e ∈ H.ents, e.b.lt H.next ∧ e.b.isKey
  sep : ∀ e ∈ H.ents, ∀ e' ∈ H.ents, (e.rw = true ∨ e'.rw = true) → ∀ b b', InC e.c e.b b → InC e'.c e'.b b' → b ≠ b' → ∀ k z z', ρ b = some (k, z) → ρ b' = some (k, z') → False
  keys : H.ents.Pairwise fun e e' => e.b ≠ e'.b
  glob : ∀ g, ∃ n, ρ (.glob g) = some (g, (0, n))
  enc : ∀ e ∈ H.ents, ContOk S e.c

theorem Blk.beq_eq {a b : Blk} (h : Blk.beq a b = true) : a = b := by
  unfold Blk.beq at h
  split at h
  · rw [Nat.eq_of_beq_eq_true h]
  · rw [Nat.eq_of_beq_eq_true h]
  · simp at h
theorem Blk.beq_self {a : Blk} (h : a.isKey) : Blk.beq a a = true := by
  cases a <;> first | exact Nat.beq_refl _ | exact h.elim

theorem getE_mem {l : List Ent} {b : Blk} {e : Ent} (h : getE l b = some e) : e ∈ l ∧ e.b = b := by
  induction l with
  | nil => simp [getE] at h
  | cons x l ih =>
    unfold getE at h
    split at h
    · rename_i hb
      simp at h; subst h
      exact ⟨List.mem_cons_self, Blk.beq_eq hb⟩
    · obtain ⟨h1, h2⟩ := ih h
      exact ⟨List.mem_cons_of_mem _ h1, h2⟩

section
variable {S : Seat} {ρ : Loc} {H : Heap} {w : World}

theorem at_sound (hH : HRel S ρ H w) : ∀ {b : Blk} {K : Cont → Prop}, atA H.ents b K → ∃ c e, K c ∧ e ∈ H.ents ∧ Holds ρ H.next w e.rw c b ∧ InC e.c e.b b ∧ (∀ b', InC c b b' → InC e.c e.b b')
  | .loc n, K, h => by
    unfold atA at h
    split at h
    · rename_i e he
      obtain ⟨h1, h2⟩ := getE_mem he
      refine ⟨e.c, e, h, h1, h2 ▸ hH.holds e h1, ?_, fun b' hb => h2 ▸ hb⟩
      rw [h2]; cases e.c <;> simp [InC]
    · exact h.elim
  | .glob n, K, h => by
    unfold atA at h
    split at h
    · rename_i e he
      obtain ⟨h1, h2⟩ := getE_mem he
      refine ⟨e.c, e, h, h1, h2 ▸ hH.holds e h1, ?_, fun b' hb => h2 ▸ hb⟩
      rw [h2]; cases e.c <;> simp [InC]
    · exact h.elim
  | .sub b i j, K, h => by
    unfold atA at h
    obtain ⟨c, e, hc, he, hh, hi, hs⟩ := at_sound hH h
    split at hc
    · rename_i α m d g s f xs
      obtain ⟨⟨h0, h1, h2⟩, hK⟩ := hc
      obtain ⟨n, rfl⟩ := Int.eq_ofNat_of_zero_le h0
      have h1 : n < xs.length := by omega
      have hsub := hh.2 n h1 j h2
      simp only [Int.toNat_natCast] at hK
      have hin : ∀ b', InC (f (xs.getD n d) j) (.sub b n j) b' → InC e.c e.b b' := fun b' hb' => hs b' (.inr ⟨n, h1, j, h2, hb'⟩)
      refine ⟨_, e, hK, he, hsub, hin _ ?_, hin⟩
      cases f (xs.getD n d) j <;> simp [InC]
    · exact hc.elim

theorem Holds.lies {N : Nat} {rw : Bool} {c : Cont} {b : Blk} (h : Holds ρ N w rw c b) : Lies ρ N w rw b c := by
  cases c with
  | raw vs => exact h
  | arr E xs => exact h
  | nest m d g s f xs => exact h.1

/-- cells that are read -/
theorem elem_sound {N : Nat} {rw : Bool} {c : Cont} {b : Blk} {m : Nat} {i : Option Int} {K : List AV → Prop} {k : Nat} {z : Nat × Nat} (hl : Lies ρ N w rw b c) (hb : ρ b = some (k, z)) (h0 : 0 ≤ i.getD 0) (h : elemA b m i c K) :
    ∃ l rs, K l ∧ VRels ρ l rs ∧ AV.lts N l ∧ ∀ j r, rs[j]? = some r → w.cell? ⟨k, z.1 + ((i.getD 0).toNat * m + j), none⟩ = some r := by
  simp only [Lies, hb] at hl
  obtain ⟨arr, T, fz, h1, h2, h3, h4⟩ := hl
  generalize hsub : own arr z = sub at h4
  have cell : ∀ (o : Nat) (r : Value), sub.toList[o]? = some r → w.cell? ⟨k, z.1 + o, none⟩ = some r := by
    intro o r hr
    simp only [World.cell?, h1]
    rw [← hsub] at hr
    simpa using own_get hr
  have elem : ∀ (m' n : Nat) (cell : Nat → List AV), ElemsLie ρ N sub m' n cell → arrElemA m i m' n cell K → ∃ l rs, K l ∧ VRels ρ l rs ∧ AV.lts N l ∧ ∀ j r, rs[j]? = some r → w.cell? ⟨k, z.1 + ((i.getD 0).toNat * m + j), none⟩ = some r := by
    clear h
    intro m' n cell' he h
    unfold arrElemA at h
    split at h
    · obtain ⟨hp, hK⟩ := h
      obtain ⟨r1, r2⟩ := he.2 0 hp
      refine ⟨_, _, hK, r1, r2, fun j r hr => ?_⟩
      simp only [Option.getD_none, Int.toNat_zero, Nat.zero_mul, Nat.zero_add]
      apply cell
      rw [List.getElem?_take] at hr
      split at hr
      · simpa using hr
      · simp at hr
    · rename_i i
      split at h
      · rename_i hm
        have hm := Nat.eq_of_beq_eq_true hm
        subst hm
        obtain ⟨⟨hp, hp'⟩, hK⟩ := h
        obtain ⟨r1, r2⟩ := he.2 i.toNat (by omega)
        refine ⟨_, _, hK, r1, r2, fun j r hr => ?_⟩
        simp only [Option.getD_some]
        apply cell
        rw [List.getElem?_take] at hr
        split at hr
        · simpa using hr
        · simp at hr
      · exact h.elim
  cases c with
  | raw vs =>
    obtain ⟨g1, g2, g3⟩ := h4
    simp only [elemA] at h
    split at h
    · refine ⟨_, _, h, g2, g3, fun j r hr => ?_⟩
      simp only [Option.getD_none, Int.toNat_zero, Nat.zero_mul, Nat.zero_add]
      apply cell
      rw [List.getElem?_take] at hr
      split at hr
      · exact hr
      · simp at hr
    · rename_i n
      refine ⟨_, _, h, g2.drop (n * m), lts_drop _ g3, fun j r hr => ?_⟩
      apply cell
      rw [List.getElem?_drop, List.getElem?_take] at hr
      split at hr
      · simpa using hr
      · simp at hr
    · exact h.elim
  | arr E xs => exact elem _ _ _ h4 h
  | nest m d g s f xs => exact elem _ _ _ h4 h

theorem load_sound {N : Nat} {T : TypeId} {l : List AV} {rs : List Value} {j : Nat} {K : AV → Prop} {a : Addr} (h : partA S T l j K) (hr : VRels ρ l rs) (hl : AV.lts N l)
    (hc : ∀ j r, rs[j]? = some r → w.cell? ⟨a.block, a.off + j, none⟩ = some r) :
    ∃ r, Got ρ N K r ∧ (loadVar T ⟨a.block, a.off + j, none⟩).run S.P w = .ok r w := by
  rcases part_rel h hr hl with ⟨ha', hp, hlen, hg⟩ | ⟨ha', r, hr', hg⟩
  · refine ⟨_, hg, ?_⟩
    simp only [loadVar, Sem.run_bind, isAgg_run ha', Result.andThen_ok, if_true, run_size hp]
    have hll : ((rs.drop j).take (szA S T)).length = szA S T := by simp; omega
    have := run_loadCells_list (P := S.P) w ⟨a.block, a.off + j, none⟩ ((rs.drop j).take (szA S T)) (fun i v hv => by
      rw [List.getElem?_take] at hv
      split at hv
      · rw [List.getElem?_drop] at hv
        have := hc _ _ hv
        simp only [Addr.add]
        split
        · rename_i h0; subst h0; simpa using this
        · simpa [Nat.add_assoc] using this
      · simp at hv)
    rw [hll] at this
    simp [this]
  · refine ⟨_, hg, ?_⟩
    simp only [loadVar, Sem.run_bind, isAgg_run ha', Result.andThen_ok, Bool.false_eq_true, if_false, run_load, hc _ _ hr']

/-- elements lie one behind the other -/
def ElemsAt (ρ : Loc) (N : Nat) (w : World) {α : Type} (E : Enc α) (ys : List α) (a : Option Addr) : Prop :=
  ys ≠ [] → ∃ k off, a = some ⟨k, off, none⟩ ∧ ∀ t, t < ys.length →
    ∃ rs, VRels ρ (E.cells (ys.getD t E.d)) rs ∧ AV.lts N (E.cells (ys.getD t E.d)) ∧ ∀ j r, rs[j]? = some r → w.cell? ⟨k, off + t * E.m + j, none⟩ = some r

/-- the elements of a slice, as they lie -/
theorem elems_sound {α : Type} {E : Enc α} {x : AV} {K : List α → Prop} {r : Value} (hH : HRel S ρ H w) (h : elemsA E H.ents x K) (hx : VRel ρ x r) :
    ∃ ys a cap, K ys ∧ r = .slice a ys.length cap ∧ ys.length ≤ cap ∧ cap ≤ 9223372036854775807 ∧ ElemsAt ρ H.next w E ys a := by
  unfold elemsA at h
  split at h
  · obtain ⟨a, rfl⟩ := hx
    exact ⟨[], a, 0, h, rfl, by simp, by omega, fun hn => absurd rfl hn⟩
  · rename_i b m i n
    obtain ⟨c, e, ⟨ys, rfl, rfl, h'⟩, he, hh, _⟩ := at_sound hH h
    clear h
    have h := h'
    clear h'
    have hl := hh.lies
    -- the piece
    have hp : ∃ i' : Nat, (i' : Int) = i.getD 0 ∧ 0 ≤ n ∧ i' + n.toNat ≤ ys.length ∧ K ((ys.drop i').take n.toNat) := by
      split at h
      · obtain ⟨⟨h1, h2⟩, h⟩ := h
        exact ⟨0, rfl, h1, by omega, by simpa using h⟩
      · rename_i i0
        obtain ⟨⟨h1, h2, h3⟩, h⟩ := h
        exact ⟨i0.toNat, by simp; omega, h2, by omega, h⟩
    obtain ⟨i', hi, hn, hle, hK⟩ := hp
    have hlen : ((ys.drop i').take n.toNat).length = n.toNat := by simp; omega
    rcases hx with ⟨e1, e2, e3, a, rfl⟩ | ⟨k, z, cap, off, e1, e2, e3, e4, e5, e6, e7, rfl⟩
    · subst e2
      refine ⟨_, a, 0, hK, by rw [hlen]; rfl, by rw [hlen]; simp, by omega, fun hn => ?_⟩
      exact absurd (List.eq_nil_of_length_eq_zero (by rw [hlen]; rfl)) hn
    · refine ⟨_, _, cap, hK, by rw [hlen], by rw [hlen]; exact e4, e5, fun hne => ⟨k, off, rfl, fun t ht => ?_⟩⟩
      rw [hlen] at ht
      have hoff : off = z.1 + i' * E.m := by
        rcases e7 with e7 | e7
        · omega
        · rw [e7, ← hi]; simp
      simp only [Lies, e1] at hl
      obtain ⟨arr, T, fz, g1, g2, g3, g4, g5⟩ := hl
      obtain ⟨r1, r2⟩ := g5 (i' + t) (by omega)
      have hg : ((ys.drop i').take n.toNat).getD t E.d = ys.getD (i' + t) E.d := by
        simp only [List.getD_eq_getElem?_getD, List.getElem?_take, if_pos ht, List.getElem?_drop]
      rw [hg]
      refine ⟨_, r1, r2, fun j r hr => ?_⟩
      rw [List.getElem?_take] at hr
      split at hr
      · simp only [World.cell?, g1]
        rw [List.getElem?_drop] at hr
        have hr := own_get hr
        rw [hoff, Nat.add_assoc, Nat.add_assoc, ← Nat.add_assoc (i' * E.m), ← Nat.add_mul]
        simpa using hr
      · simp at hr
  · exact h.elim
end
end Go.Vm
