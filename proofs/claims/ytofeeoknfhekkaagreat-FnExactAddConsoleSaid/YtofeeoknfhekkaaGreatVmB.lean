/- An abstract machine over the loaded code: what its memory says of the machine's own. -/
import Derived.Test.YtofeeoknfhekkaaGreatVmA
import Derived.Laws.Cells
import Derived.Laws.BytesString
import Derived.Laws.MakeOwn
import Derived.Lib.ConvBytes
import Derived.Laws.CopyRow
set_option linter.unusedSimpArgs false
set_option linter.unusedVariables false
set_option linter.constructorNameAsVariable false
namespace Go.Vm
open Go.RowKit

/-- blocks within another -/
def Under (b : Blk) : Blk → Prop
  | .sub c _ _ => c = b ∨ Under b c
  | _ => False
/-- alike but for what lies within b -/
def Off (b : Blk) (ρ ρ' : Loc) : Prop := ∀ b', ¬ Under b b' → ρ' b' = ρ b'

abbrev Foot := Nat → Nat → Prop
def inZ (z : Nat × Nat) (c : Nat) : Prop := z.1 ≤ c ∧ c < z.1 + z.2
def regF (p : Option (Nat × (Nat × Nat))) : Foot := fun k c => ∃ z, p = some (k, z) ∧ inZ z c
def Disj (F G : Foot) : Prop := ∀ k c, F k c → G k c → False
theorem Disj.symm {F G : Foot} (h : Disj F G) : Disj G F := fun k c a b => h k c b a

/-- where blocks lie, and what cells are theirs -/
structure Lay where
  loc : Loc
  foot : Blk → Foot
instance : Coe Lay Loc := ⟨Lay.loc⟩
instance : CoeFun Lay (fun _ => Blk → Option (Nat × (Nat × Nat))) := ⟨Lay.loc⟩

def own (arr : Array Value) (z : Nat × Nat) : Array Value := ((arr.toList.drop z.1).take z.2).toArray
theorem own_size {arr : Array Value} {z : Nat × Nat} (h : z.1 + z.2 ≤ arr.size) : (own arr z).size = z.2 := by
  simp [own]; omega
theorem own_all (arr : Array Value) : own arr (0, arr.size) = arr := by
  unfold own
  simp only [List.drop_zero]
  rw [List.take_of_length_le (by simp)]
theorem own_get {arr : Array Value} {z : Nat × Nat} {o : Nat} {r : Value} (h : (own arr z).toList[o]? = some r) : arr.toList[z.1 + o]? = some r := by
  unfold own at h
  simp only at h
  rw [List.getElem?_take] at h
  split at h
  · simpa using h
  · simp at h
theorem own_splice {arr arr' : Array Value} {news : List Value} {z : Nat × Nat} {q : Nat} (h : q + news.length ≤ z.2) (hn : z.1 + z.2 ≤ arr.size)
    (ha : arr'.toList = arr.toList.take (z.1 + q) ++ (news ++ arr.toList.drop (z.1 + q + news.length))) :
    (own arr' z).toList = (own arr z).toList.take q ++ (news ++ (own arr z).toList.drop (q + news.length)) := by
  unfold own
  simp only
  rw [ha]
  have hl : arr.toList.length = arr.size := by simp
  have e1 : (arr.toList.take (z.1 + q) ++ (news ++ arr.toList.drop (z.1 + q + news.length))).drop z.1 = (arr.toList.drop z.1).take q ++ (news ++ (arr.toList.drop z.1).drop (q + news.length)) := by
    rw [List.drop_append_of_le_length (by simp; omega), List.drop_take, Nat.add_sub_cancel_left, List.drop_drop, Nat.add_assoc]
  rw [e1]
  have h1 : ((arr.toList.drop z.1).take q).length = q := by simp; omega
  rw [List.take_append, h1, List.take_of_length_le (show ((arr.toList.drop z.1).take q).length ≤ z.2 by omega), List.take_append, List.take_of_length_le (show news.length ≤ z.2 - q by omega), List.take_take, Nat.min_eq_left (by omega), List.drop_take, Nat.sub_sub]


def FzOk (fz : Nat × Nat) (arr : Array Value) : Prop := fz.1 = fz.2 ∨ arr.size ≤ fz.1

def liveP (o : Option (Int × List AV)) (i : Nat) : Prop := match o with
  | none => True
  | some p => (i : Int) ≠ p.1
def totalN (o : Option (Int × List AV)) (n : Nat) : Nat := match o with
  | none => n
  | some p => max n (p.1.toNat + 1)

def ElemsLie (ρ : Loc) (N : Nat) (arr : Array Value) (m n : Nat) (cell : Nat → List AV) : Prop :=
  n * m ≤ arr.size ∧ ∀ i, i < n → VRels ρ (cell i) ((arr.toList.drop (i * m)).take m) ∧ AV.lts N (cell i)

/-- a content lies in cells -/
def CellsLie (ρ : Loc) (N : Nat) (arr : Array Value) (b : Blk) : Cont → Prop
  | .raw vs => vs.length ≤ arr.size ∧ VRels ρ vs (arr.toList.take vs.length) ∧ AV.lts N vs
  | .arr E xs => ElemsLie ρ N arr E.m xs.length fun i => E.cells (xs.getD i E.d)
  | .nest m d g _ _ xs o => totalN o xs.length * m ≤ arr.size ∧ ∀ i : Nat, i < xs.length → liveP o i → VRels ρ (g (fun j => .sub b i j) (xs.getD i d)) ((arr.toList.drop (i * m)).take m)

def Lies (ρ : Loc) (N : Nat) (w : World) (rw : Bool) (b : Blk) (c : Cont) : Prop :=
  match ρ b with
  | none => c.empty
  | some (k, z) => ∃ arr T fz, w.heap[k]? = some (.cells arr T fz) ∧ z.1 + z.2 ≤ arr.size ∧ (rw = true → FzOk fz arr) ∧ CellsLie ρ N (own arr z) b c

/-- a content and all within it lie in cells of F -/
def Holds (ρ : Loc) (N : Nat) (w : World) (rw : Bool) : Cont → Blk → Foot → Prop
  | .raw vs, b, F => Lies ρ N w rw b (.raw vs) ∧ ∀ k c, regF (ρ b) k c → F k c
  | .arr E xs, b, F => Lies ρ N w rw b (.arr E xs) ∧ ∀ k c, regF (ρ b) k c → F k c
  | .nest m d g s f xs o, b, F => (Lies ρ N w rw b (.nest m d g s f xs o) ∧ ∀ k c, regF (ρ b) k c → F k c) ∧ ∃ Fs : Nat → Nat → Foot,
      (∀ i, i < xs.length → liveP o i → ∀ j, j ∈ s → Holds ρ N w rw (f (xs.getD i d) j) (.sub b i j) (Fs i j)) ∧
      (∀ i, i < xs.length → liveP o i → ∀ j, j ∈ s → ∀ k c, Fs i j k c → F k c) ∧
      (rw = true → (∀ i, i < xs.length → liveP o i → ∀ j, j ∈ s → Disj (regF (ρ b)) (Fs i j)) ∧
        ∀ i, i < xs.length → liveP o i → ∀ j, j ∈ s → ∀ i', i' < xs.length → liveP o i' → ∀ j', j' ∈ s → (i, j) ≠ (i', j') → Disj (Fs i j) (Fs i' j'))

/-- the open element -/
def OpenLie (ρ : Loc) (N : Nat) (w : World) (b : Blk) (m n : Nat) (o : Option (Int × List AV)) : Prop :=
  match o with
  | none => True
  | some p => 0 ≤ p.1 ∧ p.1 ≤ n ∧ p.2.length = m ∧ AV.lts N p.2 ∧ ∃ k z arr T fz, ρ b = some (k, z) ∧ w.heap[k]? = some (.cells arr T fz) ∧ VRels ρ p.2 (((own arr z).toList.drop (p.1.toNat * m)).take m)

/-- an entry holds; what lies within a block that may be turned has no names outside -/
def HoldsE (ρ : Loc) (N : Nat) (w : World) (rw : Bool) (c : Cont) (b : Blk) (F : Foot) : Prop :=
  match c with
  | .nest m d g s f xs o => match rw with
    | true => (∃ ρ1, Off b ρ ρ1 ∧ Holds ρ1 N w true (.nest m d g s f xs o) b F) ∧ OpenLie ρ N w b m xs.length o
    | false => o = none ∧ Holds ρ N w false (.nest m d g s f xs o) b F
  | .raw vs => Holds ρ N w rw (.raw vs) b F
  | .arr E xs => Holds ρ N w rw (.arr E xs) b F

def Blk.isKey : Blk → Prop
  | .sub _ _ _ => False
  | _ => True

def keyB : Blk → Blk
  | .sub b _ _ => keyB b
  | b => b
theorem keyB_key {b : Blk} (h : b.isKey) : keyB b = b := by cases b <;> first | rfl | exact h.elim

structure HRel (S : Seat) (ρ : Lay) (H : Heap) (w : World) : Prop where
  holds : ∀ e ∈ H.ents, HoldsE ρ H.next w e.rw e.c e.b (ρ.foot e.b)
  key : ∀ e ∈ H.ents, e.b.lt H.next ∧ e.b.isKey
  sep : ∀ e ∈ H.ents, ∀ e' ∈ H.ents, (e.rw = true ∨ e'.rw = true) → e.b ≠ e'.b → Disj (ρ.foot e.b) (ρ.foot e'.b)
  keys : H.ents.Pairwise fun e e' => e.b ≠ e'.b
  glob : ∀ g, ∃ n, ρ (.glob g) = some (g, (0, n))
  enc : ∀ e ∈ H.ents, ContOk S e.c
  low : ∀ e ∈ H.ents, ∀ k c, ρ.foot e.b k c → k < w.heap.size
  root : ∀ e ∈ H.ents, e.rw = true → e.b.root ≠ none

theorem Blk.beq_eq {a b : Blk} (h : Blk.beq a b = true) : a = b := by
  unfold Blk.beq at h
  split at h
  · rw [Nat.eq_of_beq_eq_true h]
  · rw [Nat.eq_of_beq_eq_true h]
  · simp at h
theorem Blk.beq_self {a : Blk} (h : a.isKey) : Blk.beq a a = true := by
  cases a <;> first | exact Nat.beq_refl _ | exact h.elim

theorem getE_mem {l : List Ent} {b : Blk} {e : Ent} (h : getE l b = some e) : e ∈ l ∧ e.b = b := by
  induction l with
  | nil => simp [getE] at h
  | cons x l ih =>
    unfold getE at h
    split at h
    · rename_i hb
      simp at h; subst h
      exact ⟨List.mem_cons_self, Blk.beq_eq hb⟩
    · obtain ⟨h1, h2⟩ := ih h
      exact ⟨List.mem_cons_of_mem _ h1, h2⟩


theorem Under.root {b : Blk} : ∀ {b' : Blk}, Under b b' → b'.root = b.root
  | .loc _, h => h.elim
  | .glob _, h => h.elim
  | .sub c i j, h => by
    rcases h with h | h
    · rw [← h]; rfl
    · exact (Under.root (b' := c) h)
theorem Under.key {b b' : Blk} (h : Under b b') : ¬ b'.isKey := by
  cases b' with
  | loc _ => exact h.elim
  | glob _ => exact h.elim
  | sub c i j => exact id
theorem Under.lt {N : Nat} {b b' : Blk} (h : Under b b') (hb : b.lt N) : b'.lt N := fun n hn => hb n (by rw [← h.root]; exact hn)
theorem Blk.lt.sub {N : Nat} {b : Blk} {i : Int} {j : Nat} (h : b.lt N) : (Blk.sub b i j).lt N := fun n hn => h n hn
theorem Off.refl (b : Blk) (ρ : Loc) : Off b ρ ρ := fun _ _ => rfl
def Blk.high : Blk → Nat
  | .sub b _ _ => b.high + 1
  | _ => 0
theorem not_under_self (b : Blk) : ¬ Under b b := by
  have : ∀ {b' : Blk}, Under b b' → b.high < b'.high := by
    intro b'
    induction b' with
    | loc _ => intro h; exact h.elim
    | glob _ => intro h; exact h.elim
    | sub c i j ih =>
      intro h
      rcases h with h | h
      · subst h; simp [Blk.high]
      · have := ih h; simp only [Blk.high]; omega
  intro h
  have := this h
  omega

/-- cells of F are as they were -/
def KeepF (F : Foot) (w w' : World) : Prop := ∀ k arr T fz, w.heap[k]? = some (.cells arr T fz) →
  ∃ arr' fz', w'.heap[k]? = some (.cells arr' T fz') ∧ arr'.size = arr.size ∧ (FzOk fz arr → FzOk fz' arr') ∧ ∀ c, F k c → arr'[c]? = arr[c]?
theorem KeepF.refl (F : Foot) (w : World) : KeepF F w w := fun _ arr _ fz h => ⟨arr, fz, h, rfl, id, fun _ _ => rfl⟩
theorem KeepF.mono {F G : Foot} {w w' : World} (h : KeepF F w w') (hg : ∀ k c, G k c → F k c) : KeepF G w w' := fun k arr T fz e =>
  let ⟨arr', fz', h1, h2, h3, h4⟩ := h k arr T fz e
  ⟨arr', fz', h1, h2, h3, fun c hc => h4 c (hg k c hc)⟩
theorem own_congr {arr arr' : Array Value} {z : Nat × Nat} (hs : arr'.size = arr.size) (h : ∀ c, inZ z c → arr'[c]? = arr[c]?) : own arr' z = own arr z := by
  unfold own
  congr 1
  apply List.ext_getElem?
  intro i
  simp only [List.getElem?_take, List.getElem?_drop]
  split
  · have := h (z.1 + i) ⟨by omega, by omega⟩
    simpa using this
  · rfl

theorem ElemsLie.agree {ρ ρ' : Loc} {N N' : Nat} {arr : Array Value} {m n : Nat} {cell : Nat → List AV} (h : ElemsLie ρ N arr m n cell) (ha : Agree N ρ ρ') (hN : N ≤ N') : ElemsLie ρ' N' arr m n cell :=
  ⟨h.1, fun i hi => ⟨VRels.agree ha (h.2 i hi).2 (h.2 i hi).1, AV.lts.mono hN (h.2 i hi).2⟩⟩
theorem CellsLie.agree {S : Seat} {ρ ρ' : Loc} {N N' : Nat} {arr : Array Value} {b : Blk} {c : Cont} (hok : ContOk S c) (hb : b.lt N) (h : CellsLie ρ N arr b c) (ha : Agree N ρ ρ') (hN : N ≤ N') : CellsLie ρ' N' arr b c := by
  cases c with
  | raw vs => exact ⟨h.1, VRels.agree ha h.2.2 h.2.1, AV.lts.mono hN h.2.2⟩
  | arr E xs => exact ElemsLie.agree h ha hN
  | nest m d g s f xs o =>
    obtain ⟨⟨T, hT⟩, _⟩ := hok
    exact ⟨h.1, fun i hi hl => VRels.agree ha (hT.lt _ _ _ fun j _ => hb.sub) (h.2 i hi hl)⟩

theorem Lies.turn {S : Seat} {ρ ρ' : Loc} {N N' : Nat} {w w' : World} {rw : Bool} {c : Cont} {b : Blk} (hok : ContOk S c) (h : Lies ρ N w rw b c) (hb : b.lt N) (ha : Agree N ρ ρ') (hN : N ≤ N') (hw : KeepF (regF (ρ b)) w w') : Lies ρ' N' w' rw b c := by
  unfold Lies at h ⊢
  rw [ha b hb]
  split at h
  · exact h
  · rename_i k z e
    obtain ⟨arr, T, fz, h1, h2, h3, h4⟩ := h
    obtain ⟨arr', fz', g1, g2, g3, g4⟩ := hw k arr T fz h1
    have hown : own arr' z = own arr z := own_congr g2 fun c hc => g4 c ⟨z, e, hc⟩
    refine ⟨arr', T, fz', g1, by omega, fun q => g3 (h3 q), ?_⟩
    rw [hown]
    exact h4.agree hok hb ha hN

theorem ContOk.sub {S : Seat} {α : Type} {m : Nat} {d : α} {g : (Nat → Blk) → α → List AV} {s : List Nat} {f : α → Nat → Cont} {xs : List α} {o : Option (Int × List AV)} (h : ContOk S (.nest m d g s f xs o)) (x : α) (j : Nat) : ContOk S (f x j) := (h.2 x j).1

theorem Holds.turn {S : Seat} {ρ ρ' : Loc} {N N' : Nat} {w w' : World} : ∀ {rw : Bool} {c : Cont} {b : Blk} {F : Foot}, ContOk S c → Holds ρ N w rw c b F → b.lt N → Agree N ρ ρ' → N ≤ N' → KeepF F w w' → Holds ρ' N' w' rw c b F
  | rw, .raw _, b, F, hok, h, hb, ha, hN, hw => ⟨Lies.turn hok h.1 hb ha hN (hw.mono h.2), fun k c q => h.2 k c (ha b hb ▸ q)⟩
  | rw, .arr _ _, b, F, hok, h, hb, ha, hN, hw => ⟨Lies.turn hok h.1 hb ha hN (hw.mono h.2), fun k c q => h.2 k c (ha b hb ▸ q)⟩
  | rw, .nest m d g s f xs o, b, F, hok, h, hb, ha, hN, hw => by
    obtain ⟨⟨h1, h2⟩, Fs, h3, h4, h5⟩ := h
    refine ⟨⟨Lies.turn hok h1 hb ha hN (hw.mono h2), fun k c q => h2 k c (ha b hb ▸ q)⟩, Fs, fun i hi hl j hj => ?_, h4, fun hr => ?_⟩
    · exact Holds.turn (hok.2 _ _).1 (h3 i hi hl j hj) hb.sub ha hN (hw.mono (h4 i hi hl j hj))
    · rw [ha b hb]; exact h5 hr

theorem OpenLie.turn {ρ ρ' : Loc} {N N' : Nat} {w w' : World} {b : Blk} {m n : Nat} {o : Option (Int × List AV)} (h : OpenLie ρ N w b m n o) (hb : b.lt N) (ha : Agree N ρ ρ') (hN : N ≤ N') (hw : KeepF (regF (ρ b)) w w') : OpenLie ρ' N' w' b m n o := by
  unfold OpenLie at h ⊢
  split at h
  · trivial
  · rename_i p
    obtain ⟨h1, h2, h3, h4, k, z, arr, T, fz, h5, h6, h7⟩ := h
    obtain ⟨arr', fz', g1, g2, g3, g4⟩ := hw k arr T fz h6
    have hown : own arr' z = own arr z := own_congr g2 fun c hc => g4 c ⟨z, h5, hc⟩
    refine ⟨h1, h2, h3, h4.mono hN, k, z, arr', T, fz', by rw [ha b hb]; exact h5, g1, ?_⟩
    rw [hown]
    exact h7.agree ha h4

open Classical in
/-- inside b as one, outside as the other -/
noncomputable def mixL (b : Blk) (ρin ρout : Loc) : Loc := fun b' => if Under b b' then ρin b' else ρout b'
theorem mixL_off (b : Blk) (ρin ρout : Loc) : Off b ρout (mixL b ρin ρout) := fun b' h => by simp [mixL, h]
theorem mixL_in {b b' : Blk} {ρin ρout : Loc} (h : Under b b') : mixL b ρin ρout b' = ρin b' := by simp [mixL, h]
theorem mixL_agree {N : Nat} {b : Blk} {ρ ρ' ρ1 : Loc} (ho : Off b ρ ρ1) (ha : Agree N ρ ρ') : Agree N ρ1 (mixL b ρ1 ρ') := fun b' hb => by
  by_cases h : Under b b'
  · exact mixL_in h
  · rw [mixL_off b ρ1 ρ' b' h, ha b' hb, ho b' h]

theorem HoldsE.turn {S : Seat} {ρ ρ' : Loc} {N N' : Nat} {w w' : World} {rw : Bool} {c : Cont} {b : Blk} {F : Foot} (hok : ContOk S c) (h : HoldsE ρ N w rw c b F) (hb : b.lt N) (ha : Agree N ρ ρ') (hN : N ≤ N') (hw : KeepF F w w') : HoldsE ρ' N' w' rw c b F := by
  cases c with
  | raw vs => exact Holds.turn hok h hb ha hN hw
  | arr E xs => exact Holds.turn hok h hb ha hN hw
  | nest m d g s f xs o =>
    cases rw with
    | false => exact ⟨h.1, Holds.turn hok h.2 hb ha hN hw⟩
    | true =>
      obtain ⟨⟨ρ1, h1, h2⟩, h3⟩ := h
      refine ⟨⟨mixL b ρ1 ρ', mixL_off _ _ _, Holds.turn hok h2 hb (mixL_agree h1 ha) hN hw⟩, h3.turn hb ha hN (hw.mono ?_)⟩
      have := h2.1.2
      rw [h1 b (not_under_self b)] at this
      exact this

theorem Holds.toE {ρ : Loc} {N : Nat} {w : World} {rw : Bool} {c : Cont} {b : Blk} {F : Foot} (hc : c.closed) (h : Holds ρ N w rw c b F) : HoldsE ρ N w rw c b F := by
  cases c with
  | raw vs => exact h
  | arr E xs => exact h
  | nest m d g s f xs o =>
    cases rw with
    | false => exact ⟨hc, h⟩
    | true =>
      have hc : o = none := hc
      subst hc
      exact ⟨⟨ρ, .refl _ _, h⟩, trivial⟩

theorem Holds.reg {ρ : Loc} {N : Nat} {w : World} {rw : Bool} {c : Cont} {b : Blk} {F : Foot} (h : Holds ρ N w rw c b F) : Lies ρ N w rw b c ∧ ∀ k c, regF (ρ b) k c → F k c := by
  cases c with
  | raw vs => exact h
  | arr E xs => exact h
  | nest m d g s f xs o => exact h.1

/-- what lies in the block itself -/
theorem HoldsE.reg {ρ : Loc} {N : Nat} {w : World} {rw : Bool} {c : Cont} {b : Blk} {F : Foot} (h : HoldsE ρ N w rw c b F) : (∃ ρ1, Off b ρ ρ1 ∧ Lies ρ1 N w rw b c) ∧ ∀ k c, regF (ρ b) k c → F k c := by
  cases c with
  | raw vs => exact ⟨⟨ρ, .refl _ _, h.1⟩, h.2⟩
  | arr E xs => exact ⟨⟨ρ, .refl _ _, h.1⟩, h.2⟩
  | nest m d g s f xs o =>
    cases rw with
    | false => exact ⟨⟨ρ, .refl _ _, h.2.1.1⟩, h.2.1.2⟩
    | true =>
      obtain ⟨⟨ρ1, h1, h2⟩, h3⟩ := h
      refine ⟨⟨ρ1, h1, h2.1.1⟩, ?_⟩
      have := h2.1.2
      rw [h1 b (not_under_self b)] at this
      exact this
theorem HoldsE.arr {ρ : Loc} {N : Nat} {w : World} {rw : Bool} {α : Type} {E : Enc α} {xs : List α} {b : Blk} {F : Foot} (h : HoldsE ρ N w rw (.arr E xs) b F) : Lies ρ N w rw b (.arr E xs) ∧ ∀ k c, regF (ρ b) k c → F k c := h
theorem HoldsE.raw {ρ : Loc} {N : Nat} {w : World} {rw : Bool} {vs : List AV} {b : Blk} {F : Foot} (h : HoldsE ρ N w rw (.raw vs) b F) : Lies ρ N w rw b (.raw vs) ∧ ∀ k c, regF (ρ b) k c → F k c := h
theorem HoldsE.block {ρ : Loc} {N : Nat} {w : World} {rw : Bool} {c : Cont} {b : Blk} {F : Foot} {k : Nat} {z : Nat × Nat} (h : HoldsE ρ N w rw c b F) (hb : ρ b = some (k, z)) : ∃ arr T fz, w.heap[k]? = some (.cells arr T fz) ∧ z.1 + z.2 ≤ arr.size ∧ (rw = true → FzOk fz arr) := by
  obtain ⟨⟨ρ1, h1, h2⟩, _⟩ := h.reg
  rw [← h1 b (not_under_self b)] at hb
  simp only [Lies, hb] at h2
  obtain ⟨arr, T, fz, g1, g2, g3, g4⟩ := h2
  exact ⟨arr, T, fz, g1, g2, g3⟩

section
variable {S : Seat} {ρ : Lay} {H : Heap} {w : World}

theorem at_sound (hH : HRel S ρ H w) : ∀ {b : Blk} {K : Bool → Cont → Prop}, atA H.ents b K → ∃ q c F e, K q c ∧ e ∈ H.ents ∧ HoldsE ρ H.next w q c b F ∧ ContOk S c ∧ b.lt H.next ∧ (∀ k c', F k c' → ρ.foot e.b k c') ∧ e.rw = q ∧ e.b = keyB b ∧ (q = true → e.b = b ∧ e.c = c ∧ F = ρ.foot e.b)
  | .loc n, K, h => by
    unfold atA at h
    split at h
    · rename_i e he
      obtain ⟨h1, h2⟩ := getE_mem he
      exact ⟨e.rw, e.c, ρ.foot e.b, e, h, h1, h2 ▸ hH.holds e h1, hH.enc e h1, h2 ▸ (hH.key e h1).1, fun _ _ q => q, rfl, h2, fun _ => ⟨h2, rfl, rfl⟩⟩
    · exact h.elim
  | .glob n, K, h => by
    unfold atA at h
    split at h
    · rename_i e he
      obtain ⟨h1, h2⟩ := getE_mem he
      exact ⟨e.rw, e.c, ρ.foot e.b, e, h, h1, h2 ▸ hH.holds e h1, hH.enc e h1, h2 ▸ (hH.key e h1).1, fun _ _ q => q, rfl, h2, fun _ => ⟨h2, rfl, rfl⟩⟩
    · exact h.elim
  | .sub b i j, K, h => by
    unfold atA at h
    obtain ⟨q, c, F, e, hc, he, hh, hok, hlt, hF, hq, hk, hqq⟩ := at_sound hH h
    clear hqq
    split at hc
    · exact hc.elim
    · split at hc
      · rename_i α m d g s f xs o
        split at hc
        · obtain ⟨⟨h0, h1, h2⟩, hK⟩ := hc
          obtain ⟨n, rfl⟩ := Int.eq_ofNat_of_zero_le h0
          have h1 : n < xs.length := by omega
          simp only [Int.toNat_natCast] at hK
          obtain ⟨_, _, Fs, g1, g2, _⟩ := hh
          exact ⟨false, _, Fs n j, e, hK, he, (g1 n h1 trivial j h2).toE (hok.2 _ _).2, (hok.2 _ _).1, hlt.sub, fun k c' p => hF k c' (g2 n h1 trivial j h2 k c' p), hq, hk, fun p => by simp at p⟩
        · exact hc.elim
      · exact hc.elim

theorem hide_rel {ρ ρ' : Loc} {N : Nat} : ∀ {l : List AV} {rs : List Value}, VRels ρ l rs → VRels ρ' (hideL l) rs ∧ AV.lts N (hideL l)
  | [], _, h => ⟨h, trivial⟩
  | v :: r, _, ⟨x, rs, e, h1, h2⟩ => by
    obtain ⟨g1, g2⟩ := hide_rel (ρ' := ρ') (N := N) h2
    refine ⟨⟨x, rs, e, ?_, g1⟩, ?_, g2⟩
    · cases v <;> first | exact h1 | exact trivial
    · cases v <;> trivial

/-- cells that are read -/
theorem elem_sound {ρ : Loc} {N : Nat} {rw : Bool} {c : Cont} {b : Blk} {F : Foot} {m : Nat} {i : Option Int} {K : List AV → Prop} {k : Nat} {z : Nat × Nat} (hl : HoldsE ρ N w rw c b F) (hok : ContOk S c) (hlt : b.lt N) (hb : ρ b = some (k, z)) (h0 : 0 ≤ i.getD 0) (h : elemA rw b m i c K) :
    ∃ l rs, K l ∧ VRels ρ l rs ∧ AV.lts N l ∧ ∀ j r, rs[j]? = some r → w.cell? ⟨k, z.1 + ((i.getD 0).toNat * m + j), none⟩ = some r ∧ inZ z (z.1 + ((i.getD 0).toNat * m + j)) := by
  -- a cell of the block's own
  have cellOf : ∀ {arr : Array Value} {T : TypeId} {fz : Nat × Nat} {o : Nat} {r : Value}, w.heap[k]? = some (.cells arr T fz) → (own arr z).toList[o]? = some r → w.cell? ⟨k, z.1 + o, none⟩ = some r ∧ inZ z (z.1 + o) := by
    intro arr T fz o r h1 hr
    refine ⟨?_, ?_⟩
    · simp only [World.cell?, h1]
      simpa using own_get hr
    · have : o < (own arr z).toList.length := by
        rcases Nat.lt_or_ge o (own arr z).toList.length with q | q
        · exact q
        · rw [List.getElem?_eq_none q] at hr; simp at hr
      have h2 : (own arr z).toList.length ≤ z.2 := by simp [own]; omega
      exact ⟨by omega, by omega⟩
  have piece : ∀ {arr : Array Value} {T : TypeId} {fz : Nat × Nat} {n m' j : Nat} {r : Value}, w.heap[k]? = some (.cells arr T fz) → ((((own arr z).toList.drop n).take m'))[j]? = some r → w.cell? ⟨k, z.1 + (n + j), none⟩ = some r ∧ inZ z (z.1 + (n + j)) := by
    intro arr T fz n m' j r h1 hr
    rw [List.getElem?_take] at hr
    split at hr
    · rw [List.getElem?_drop] at hr
      exact cellOf h1 hr
    · simp at hr
  cases c with
  | raw vs =>
    have hl := hl.1
    simp only [Lies, hb] at hl
    obtain ⟨arr, T, fz, h1, h2, h3, g1, g2, g3⟩ := hl
    simp only [elemA] at h
    split at h
    · refine ⟨_, _, h, g2, g3, fun j r hr => ?_⟩
      simp only [Option.getD_none, Int.toNat_zero, Nat.zero_mul]
      exact piece (n := 0) h1 (by simpa using hr)
    · rename_i n
      refine ⟨_, _, h, g2.drop (n * m), lts_drop _ g3, fun j r hr => ?_⟩
      rw [List.getElem?_drop] at hr
      have := piece (n := 0) h1 (by simpa using hr)
      simpa using this
    · exact h.elim
  | arr E xs =>
    have hl := hl.1
    simp only [Lies, hb] at hl
    obtain ⟨arr, T, fz, h1, h2, h3, he⟩ := hl
    simp only [elemA] at h
    unfold arrElemA at h
    split at h
    · obtain ⟨hp, hK⟩ := h
      obtain ⟨r1, r2⟩ := he.2 0 hp
      refine ⟨_, _, hK, r1, r2, fun j r hr => ?_⟩
      simp only [Option.getD_none, Int.toNat_zero, Nat.zero_mul]
      simpa using piece (n := 0 * E.m) h1 hr
    · rename_i i
      split at h
      · rename_i hm
        have hm := Nat.eq_of_beq_eq_true hm
        subst hm
        obtain ⟨⟨hp, hp'⟩, hK⟩ := h
        obtain ⟨r1, r2⟩ := he.2 i.toNat (by omega)
        exact ⟨_, _, hK, r1, r2, fun j r hr => piece h1 hr⟩
      · exact h.elim
  | nest m' d g s f xs o =>
    simp only [elemA] at h
    unfold nestElemA at h
    split at h
    · exact h.elim
    · rename_i i
      split at h
      · exact h.elim
      · rename_i hm
        have hm := Nat.eq_of_beq_eq_true hm
        subst hm
        obtain ⟨⟨T0, hT⟩, _⟩ := hok
        split at h
        · rename_i p
          split at h
          rename_i i0 cs
          obtain ⟨rfl, hK⟩ := h
          cases rw with
          | false => simp [HoldsE] at hl
          | true =>
            obtain ⟨_, q1, q2, q3, q4, k', z', arr, T, fz, q5, q6, q7⟩ := hl
            rw [hb] at q5
            obtain ⟨rfl, rfl⟩ : k' = k ∧ z' = z := by simpa [eq_comm] using q5
            exact ⟨_, _, hK, q7, q4, fun j r hr => piece q6 hr⟩
        · split at h
          · obtain ⟨⟨hp, hp'⟩, hK⟩ := h
            have hl := hl.2.1.1
            simp only [Lies, hb] at hl
            obtain ⟨arr, T, fz, h1, h2, h3, he⟩ := hl
            obtain ⟨n, rfl⟩ := Int.eq_ofNat_of_zero_le hp
            simp only [Int.toNat_natCast] at hK
            refine ⟨_, _, hK, he.2 n (by omega) trivial, hT.lt _ _ _ fun j _ => hlt.sub, fun j r hr => piece h1 hr⟩
          · obtain ⟨⟨hp, hp'⟩, hK⟩ := h
            obtain ⟨⟨ρ1, ho, hl⟩, _⟩ := hl
            have hl := hl.1.1
            have hb1 : ρ1 b = some (k, z) := by rw [ho b (not_under_self b)]; exact hb
            simp only [Lies, hb1] at hl
            obtain ⟨arr, T, fz, h1, h2, h3, he⟩ := hl
            obtain ⟨n, rfl⟩ := Int.eq_ofNat_of_zero_le hp
            simp only [Int.toNat_natCast] at hK
            obtain ⟨r1, r2⟩ := hide_rel (ρ' := ρ) (N := N) (he.2 n (by omega) trivial)
            exact ⟨_, _, hK, r1, r2, fun j r hr => piece h1 hr⟩

theorem load_sound {N : Nat} {T : TypeId} {l : List AV} {rs : List Value} {j : Nat} {K : AV → Prop} {a : Addr} (h : partA S T l j K) (hr : VRels ρ l rs) (hl : AV.lts N l)
    (hc : ∀ j r, rs[j]? = some r → w.cell? ⟨a.block, a.off + j, none⟩ = some r) :
    ∃ r, Got ρ N K r ∧ (loadVar T ⟨a.block, a.off + j, none⟩).run S.P w = .ok r w := by
  rcases part_rel h hr hl with ⟨ha', hp, hlen, hg⟩ | ⟨ha', r, hr', hg⟩
  · refine ⟨_, hg, ?_⟩
    simp only [loadVar, Sem.run_bind, isAgg_run ha', Result.andThen_ok, if_true, run_size hp]
    have hll : ((rs.drop j).take (szA S T)).length = szA S T := by simp; omega
    have := run_loadCells_list (P := S.P) w ⟨a.block, a.off + j, none⟩ ((rs.drop j).take (szA S T)) (fun i v hv => by
      rw [List.getElem?_take] at hv
      split at hv
      · rw [List.getElem?_drop] at hv
        have := hc _ _ hv
        simp only [Addr.add]
        split
        · rename_i h0; subst h0; simpa using this
        · simpa [Nat.add_assoc] using this
      · simp at hv)
    rw [hll] at this
    simp [this]
  · refine ⟨_, hg, ?_⟩
    simp only [loadVar, Sem.run_bind, isAgg_run ha', Result.andThen_ok, Bool.false_eq_true, if_false, run_load, hc _ _ hr']

/-- elements lie one behind the other -/
def ElemsAt (ρ : Loc) (N : Nat) (w : World) {α : Type} (E : Enc α) (ys : List α) (a : Option Addr) : Prop :=
  ys ≠ [] → ∃ k off, a = some ⟨k, off, none⟩ ∧ ∀ t, t < ys.length →
    ∃ rs, VRels ρ (E.cells (ys.getD t E.d)) rs ∧ AV.lts N (E.cells (ys.getD t E.d)) ∧ ∀ j r, rs[j]? = some r → w.cell? ⟨k, off + t * E.m + j, none⟩ = some r

/-- the elements of a slice, as they lie -/
theorem elems_sound {α : Type} {E : Enc α} {x : AV} {K : List α → Prop} {r : Value} (hH : HRel S ρ H w) (h : elemsA E H.ents x K) (hx : VRel ρ x r) :
    ∃ ys a cap, K ys ∧ r = .slice a ys.length cap ∧ ys.length ≤ cap ∧ cap ≤ 9223372036854775807 ∧ ElemsAt ρ H.next w E ys a := by
  unfold elemsA at h
  split at h
  · obtain ⟨a, rfl⟩ := hx
    exact ⟨[], a, 0, h, rfl, by simp, by omega, fun hn => absurd rfl hn⟩
  · rename_i b m i n
    obtain ⟨q, c, F, e, ⟨ys, rfl, rfl, h'⟩, he, hh, _⟩ := at_sound hH h
    clear h
    have h := h'
    clear h'
    have hl := hh.arr.1
    -- the piece
    have hp : ∃ i' : Nat, (i' : Int) = i.getD 0 ∧ 0 ≤ n ∧ i' + n.toNat ≤ ys.length ∧ K ((ys.drop i').take n.toNat) := by
      split at h
      · obtain ⟨⟨h1, h2⟩, h⟩ := h
        exact ⟨0, rfl, h1, by omega, by simpa using h⟩
      · rename_i i0
        obtain ⟨⟨h1, h2, h3⟩, h⟩ := h
        exact ⟨i0.toNat, by simp; omega, h2, by omega, h⟩
    obtain ⟨i', hi, hn, hle, hK⟩ := hp
    have hlen : ((ys.drop i').take n.toNat).length = n.toNat := by simp; omega
    rcases hx with ⟨e1, e2, e3, a, rfl⟩ | ⟨k, z, cap, off, e1, e2, e3, e4, e5, e6, e7, rfl⟩
    · subst e2
      refine ⟨_, a, 0, hK, by rw [hlen]; rfl, by rw [hlen]; simp, by omega, fun hn => ?_⟩
      exact absurd (List.eq_nil_of_length_eq_zero (by rw [hlen]; rfl)) hn
    · refine ⟨_, _, cap, hK, by rw [hlen], by rw [hlen]; exact e4, e5, fun hne => ⟨k, off, rfl, fun t ht => ?_⟩⟩
      rw [hlen] at ht
      have hoff : off = z.1 + i' * E.m := by
        rcases e7 with e7 | e7
        · omega
        · rw [e7, ← hi]; simp
      simp only [Lies, e1] at hl
      obtain ⟨arr, T, fz, g1, g2, g3, g4, g5⟩ := hl
      obtain ⟨r1, r2⟩ := g5 (i' + t) (by omega)
      have hg : ((ys.drop i').take n.toNat).getD t E.d = ys.getD (i' + t) E.d := by
        simp only [List.getD_eq_getElem?_getD, List.getElem?_take, if_pos ht, List.getElem?_drop]
      rw [hg]
      refine ⟨_, r1, r2, fun j r hr => ?_⟩
      rw [List.getElem?_take] at hr
      split at hr
      · simp only [World.cell?, g1]
        rw [List.getElem?_drop] at hr
        have hr := own_get hr
        rw [hoff, Nat.add_assoc, Nat.add_assoc, ← Nat.add_assoc (i' * E.m), ← Nat.add_mul]
        simpa using hr
      · simp at hr
  · exact h.elim
end
end Go.Vm

namespace Go.Vm
open Go.RowKit
section
variable {S : Seat} {ρ : Loc} {H : Heap} {w : World} {N : Nat}

theorem foldl_push (l : List Int) : ∀ (a : ByteArray), (∀ n ∈ l, 0 ≤ n ∧ n < 256) → bytesL (l.foldl (fun r n => r.push (UInt8.ofNat n.toNat)) a) = bytesL a ++ l ∧ (l.foldl (fun r n => r.push (UInt8.ofNat n.toNat)) a).size = a.size + l.length := by
  induction l with
  | nil => intro a _; simp
  | cons n l ih =>
    intro a h
    obtain ⟨h1, h2⟩ := ih (a.push (UInt8.ofNat n.toNat)) fun x hx => h x (List.mem_cons_of_mem _ hx)
    have hn := h n List.mem_cons_self
    simp only [List.foldl_cons]
    rw [h1, h2]
    refine ⟨?_, by simp; omega⟩
    have : bytesL (a.push (UInt8.ofNat n.toNat)) = bytesL a ++ [n] := by
      simp [bytesL]
      omega
    rw [this]; simp

theorem read_sound {ρ : Lay} {o : Oper} {ev : Operand → AV} {evr : Operand → Value} {K : AV → Prop} (hH : HRel S ρ H w) (hev : ∀ x, VRel ρ (ev x) (evr x))
    (h : readA S o.op ev H K) : ∃ r, Got ρ H.next K r ∧ (execOp evr o).run S.P w = .ok (.value r) w := by
  obtain ⟨dst, op, ty, pos, after, g⟩ := o
  cases op with
  | load T a =>
    simp only [readA] at h
    have hx := hev a
    split at h
    · rename_i b m i j e
      rw [e] at hx
      obtain ⟨k, z, h1, h2, er⟩ := hx
      obtain ⟨q, c, F, e', hc, he, hh, hok, hblt, _⟩ := at_sound hH h
      obtain ⟨l, rs, hl, hr, hlt, hcell⟩ := elem_sound hh hok hblt h1 h2 hc
      obtain ⟨r, hg, hrun⟩ := load_sound (a := ⟨k, z.1 + (i.getD 0).toNat * m, none⟩) hl hr hlt (fun j r hj => by have := (hcell j r hj).1; rwa [← Nat.add_assoc] at this)
      exact ⟨r, hg, by simp only [execOp, Instr.loadAt, Instr.sureAddr, er, Sem.run_bind, Sem.run_pure, Result.andThen_ok, ← Nat.add_assoc, hrun]⟩
    · exact h.elim
  | convert s d x =>
    simp only [readA] at h
    have hx := hev x
    split at h
    · rename_i e hs hd
      split at h
      · rename_i he
        obtain ⟨E, ⟨hm, hcells⟩, h⟩ := h
        obtain ⟨ys, a, cap, ⟨hb, hK⟩, er, hle, hcap, hat⟩ := elems_sound hH h hx
        have hconv : ∀ b n c, (convert s d (.slice b n c)).run S.P w = (Conv.bytesToString (.slice b n c)).run S.P w := by
          intro b n c
          cases b <;> simp [convert, run_und hs, run_und hd, run_und he]
        cases ys with
        | nil =>
          refine ⟨.string .empty, ⟨_, hK, ⟨_, rfl, rfl, by decide⟩, trivial⟩, ?_⟩
          have hr : (Conv.bytesToString (.slice a 0 cap)).run S.P w = .ok (.string .empty) w := by
            cases a with
            | none => rfl
            | some a => exact run_bytesToString w a 0 cap [] (by rfl)
          have := hconv a 0 cap
          simp only [List.length_nil] at er
          simp only [execOp, er, Sem.run_bind, this, hr, Result.andThen_ok, Sem.run_pure]
        | cons y ys' =>
          obtain ⟨k, off, rfl, hc⟩ := hat (by simp)
          generalize hys : y :: ys' = ys at *
          have hld : (loadCells ⟨k, off, none⟩ ys.length).run S.P w = .ok (ys.map (Value.int .u8)).toArray w := by
            have := run_loadCells_list (P := S.P) w ⟨k, off, none⟩ (ys.map (Value.int .u8)) (fun j v hv => by
              rw [List.getElem?_map] at hv
              cases hj : ys[j]? with
              | none => rw [hj] at hv; simp at hv
              | some y =>
                rw [hj] at hv
                simp at hv
                have hlt : j < ys.length := by
                  rcases Nat.lt_or_ge j ys.length with h | h
                  · exact h
                  · rw [List.getElem?_eq_none h] at hj; simp at hj
                obtain ⟨rs, r1, _, r3⟩ := hc j hlt
                rw [List.getD_eq_getElem?_getD, hj, Option.getD_some, hcells] at r1
                obtain ⟨r, rs', rfl, r4, rfl⟩ := r1
                have := r3 0 r rfl
                rw [← hv, ← int_rel r4]
                simp only [Addr.add]
                split
                · rename_i q; subst q; simpa [hm] using this
                · simpa [hm] using this)
            simpa using this
          obtain ⟨f1, f2⟩ := foldl_push ys ByteArray.empty hb
          have hr := run_bytesToString (P := S.P) w ⟨k, off, none⟩ ys.length cap ys hld
          refine ⟨_, ⟨_, hK, ⟨_, rfl, by rw [f1]; simp [bytesL], by rw [f2]; simp; omega⟩, trivial⟩, ?_⟩
          have := hconv (some ⟨k, off, none⟩) ys.length cap
          simp only [execOp, er, Sem.run_bind, this, hr, Result.andThen_ok, Sem.run_pure]
      · exact h.elim
    · exact h.elim
  | _ => exact h.elim

/-- one block more, and nothing else turned -/
structure Grew (w w' : World) (o : Obj) : Prop where
  size : w'.heap.size = w.heap.size + 1
  old : ∀ j, j < w.heap.size → w'.heap[j]? = w.heap[j]?
  new : w'.heap[w.heap.size]? = some o
  os : w'.os = w.os
  tape : w'.tape = w.tape
  output : w'.output = w.output

theorem Grew.push (w : World) (o : Obj) (n : Nat) : Grew w { w with heap := w.heap.push o, drawn := n } o :=
  ⟨by simp, fun j hj => by simp [Array.getElem?_push]; omega, by simp, rfl, rfl, rfl⟩

/-- a content that lies in new cells, whatever their name -/
def FreshC (ρ : Loc) (N : Nat) (arr : Array Value) (c : Cont) : Prop :=
  ∀ (ρ' : Loc) (N' : Nat) (b : Blk) (w' : World) (k : Nat) (T : TypeId) (fz : Nat × Nat), Agree N ρ ρ' → N ≤ N' → ρ' b = some (k, (0, arr.size)) → w'.heap[k]? = some (.cells arr T fz) → FzOk fz arr →
    HoldsE ρ' N' w' true c b (regF (ρ' b))
theorem FreshC.raw {vs : List AV} {arr : Array Value} (h : ∀ b, CellsLie ρ N arr b (.raw vs)) : FreshC ρ N arr (.raw vs) := by
  intro ρ' N' b w' k T fz ha hN hb hw hf
  refine ⟨?_, fun _ _ q => q⟩
  simp only [Lies, hb]
  refine ⟨arr, T, fz, hw, by simp, fun _ => hf, ?_⟩
  rw [own_all]
  obtain ⟨h1, h2, h3⟩ := h b
  exact ⟨h1, h2.agree ha h3, h3.mono hN⟩
theorem FreshC.arr {α : Type} {E : Enc α} {xs : List α} {arr : Array Value} (h : ∀ b, CellsLie ρ N arr b (.arr E xs)) : FreshC ρ N arr (.arr E xs) := by
  intro ρ' N' b w' k T fz ha hN hb hw hf
  refine ⟨?_, fun _ _ q => q⟩
  simp only [Lies, hb]
  refine ⟨arr, T, fz, hw, by simp, fun _ => hf, ?_⟩
  rw [own_all]
  exact ElemsLie.agree (h b) ha hN
theorem holds_nothing {ρ : Loc} {w : World} {rw : Bool} {c : Cont} {b : Blk} {F : Foot} (hb : ρ b = none) (hc : c.empty) : Holds ρ N w rw c b F := by
  have hl : Lies ρ N w rw b c := by simp only [Lies, hb]; exact hc
  have hr : ∀ k c, regF (ρ b) k c → F k c := by rintro k c ⟨z, q, _⟩; rw [hb] at q; simp at q
  cases c with
  | raw vs => exact ⟨hl, hr⟩
  | arr E xs => exact ⟨hl, hr⟩
  | nest m d g s f xs o =>
    obtain ⟨rfl, rfl⟩ := hc
    exact ⟨⟨hl, hr⟩, fun _ _ _ _ => False, fun i hi => by simp at hi, fun i hi => by simp at hi, fun _ => ⟨fun i hi => by simp at hi, fun i hi => by simp at hi⟩⟩
open Classical in
theorem FreshC.nest {T0 : TypeId} {α : Type} {m : Nat} {d : α} {g : (Nat → Blk) → α → List AV} {s : List Nat} {f : α → Nat → Cont} {n : Nat} {arr : Array Value} (hT : NestOk S.P T0 m d g s f) (hs : n * m ≤ arr.size)
    (hz : ∀ i, i < n → ∃ z, ((S.P.info? T0).bind (·.zero)).map (·.cells.toList) = some z ∧ (arr.toList.drop (i * m)).take m = z) : FreshC ρ N arr (.nest m d g s f (List.replicate n d) none) := by
  intro ρ' N' b w' k T fz ha hN hb hw hf
  have hin : ∀ {b' : Blk}, Under b b' → mixL b (fun _ => none) ρ' b' = none := fun h => mixL_in h
  have hself : mixL b (fun _ => none) ρ' b = some (k, (0, arr.size)) := by rw [mixL_off b _ _ b (not_under_self b)]; exact hb
  refine ⟨⟨mixL b (fun _ => none) ρ', mixL_off _ _ _, ⟨?_, fun k c q => by rw [hself] at q; rw [hb]; exact q⟩, fun _ _ _ _ => False, fun i hi _ j hj => holds_nothing (hin (.inl rfl)) ?_, fun _ _ _ _ _ _ _ q => q.elim, fun _ => ⟨fun _ _ _ _ _ _ _ _ q => q, fun _ _ _ _ _ _ _ _ _ _ _ _ _ q _ => q⟩⟩, trivial⟩
  · simp only [Lies, hself]
    refine ⟨arr, T, fz, hw, by simp, fun _ => hf, ?_⟩
    rw [own_all]
    refine ⟨by simpa [totalN] using hs, fun i hi _ => ?_⟩
    have hi' : i < n := by simpa using hi
    obtain ⟨z, h1, h2⟩ := hz i hi'
    obtain ⟨z', h3, h4⟩ := hT.zero
    rw [h1] at h3
    simp at h3
    subst h3
    rw [h2]
    have hd : (List.replicate n d).getD i d = d := by simp [List.getD_eq_getElem?_getD, List.getElem?_replicate, hi']
    rw [hd]
    exact h4 _ _ fun j _ => hin (.inl rfl)
  · have hd : (List.replicate n d).getD i d = d := by
      have hi' : i < n := by simpa using hi
      simp [List.getD_eq_getElem?_getD, List.getElem?_replicate, hi']
    rw [hd]
    exact hT.nil j hj

/-- what is known of an operation that makes a block -/
def Makes (S : Seat) (ρ : Loc) (N : Nat) (evr : Operand → Value) (o : Oper) (c : Cont) (mk : Nat → AV) : Prop :=
  (∀ n, (mk n).lt (n + 1)) ∧ ContOk S c ∧
  ∀ w, ∃ w' r arr T fz, (execOp evr o).run S.P w = .ok (.value r) w' ∧ Grew w w' (.cells arr T fz) ∧ FzOk fz arr ∧
    FreshC ρ N arr c ∧ ∀ ρ' n, ρ' (.loc n) = some (w.heap.size, (0, arr.size)) → VRel ρ' (mk n) r

theorem zeroCells_list (z : Array Value) (n : Nat) : ((Array.range (n * z.size)).map (z[· % z.size]!)).toList = (List.replicate n z.toList).flatten := by
  by_cases hz : z.size = 0
  · have : z = #[] := Array.eq_empty_of_size_eq_zero hz
    subst this
    simp [Array.range_zero']
  · induction n with
    | zero => simp [Array.range_zero']
    | succ n ih =>
      rw [List.replicate_succ', List.flatten_append, ← ih]
      apply List.ext_getElem
      · simp [Nat.add_mul]
      · intro i h1 h2
        simp at h1
        simp only [Array.getElem_toList, Array.getElem_map, Array.getElem_range]
        rw [List.getElem_append]
        split
        · simp
        · rename_i h3
          simp at h3
          have : i % z.size = i - n * z.size := by
            have e : i = (i - n * z.size) + n * z.size := by omega
            have hlt : i - n * z.size < z.size := by rw [Nat.add_mul] at h1; omega
            rw [e, Nat.add_mul_mod_self_right, Nat.mod_eq_of_lt (by omega)]
            omega
          have hlt : i - n * z.size < z.size := by rw [Nat.add_mul] at h1; omega
          simp [this, hlt]

theorem replicate_rel {a : List AV} {b : List Value} (h : VRels ρ a b) : ∀ n, VRels ρ (List.replicate n a).flatten (List.replicate n b).flatten
  | 0 => rfl
  | n + 1 => by simpa [List.replicate_succ] using h.append (replicate_rel h n)
theorem replicate_lt {a : List AV} (h : AV.lts N a) : ∀ n, AV.lts N (List.replicate n a).flatten
  | 0 => trivial
  | n + 1 => by simpa [List.replicate_succ] using lts_append h (replicate_lt h n)

theorem parse_lie {T : TypeId} {α : Type} {E : Enc α} (hE : EncOk S.P T E) : ∀ {n : Nat} {vs : List AV} {xs : List α} {arr : List Value}, parseN E n vs = some xs → VRels ρ vs arr → vs.length = n * E.m →
    xs.length = n ∧ ∀ i, i < n → VRels ρ (E.cells (xs.getD i E.d)) ((arr.drop (i * E.m)).take E.m)
  | 0, vs, xs, arr, h, _, _ => by
    simp [parseN] at h; subst h
    exact ⟨rfl, fun i hi => by omega⟩
  | n + 1, vs, xs, arr, h, hr, hl => by
    simp only [parseN] at h
    split at h
    · rename_i x hx
      split at h
      · rename_i l hl'
        simp at h; subst h
        have hlen : vs.length = n * E.m + E.m := by rw [hl, Nat.add_mul]; simp
        obtain ⟨h1, h2⟩ := parse_lie hE hl' (hr.drop E.m) (by simp [hlen])
        refine ⟨by simp [h1], fun i hi => ?_⟩
        cases i with
        | zero => simpa using hE.parse _ _ hx ρ _ (hr.take E.m)
        | succ i =>
          have := h2 i (by omega)
          rw [List.drop_drop] at this
          simpa [Nat.add_mul, Nat.add_comm] using this
      · simp at h
    · simp at h

theorem mkCont_lie (hS : SeatOk S) {T : TypeId} {n : Nat} {vs : List AV} {arr : Array Value} (hr : VRels ρ vs arr.toList) (hl : AV.lts N vs) (hn : vs.length = n * szA S T) :
    FreshC ρ N arr (mkCont S T n vs) ∧ ContOk S (mkCont S T n vs) := by
  have hsz : arr.size = vs.length := by rw [← hr.length]; simp
  have raw : FreshC ρ N arr (.raw vs) := .raw fun b => ⟨by omega, by rw [List.take_of_length_le (by simp; omega)]; exact hr, hl⟩
  unfold mkCont
  split
  · rename_i α E hh
    split
    · rename_i l hp
      have hE : EncOk S.P T E := hS.hint _ _ hh
      have hm : szA S T = E.m := by
        have := hE.m
        unfold szA
        cases hi : S.P.info? T with
        | none => rw [hi] at this; simp at this
        | some i => rw [hi] at this; simpa using this
      rw [hm] at hn
      obtain ⟨h1, h2⟩ := parse_lie hE hp hr hn
      exact ⟨.arr fun b => ⟨by rw [h1, hsz, hn]; omega, fun i hi => ⟨h2 i (by omega), hE.plain _ _⟩⟩, _, hE⟩
    · exact ⟨raw, trivial⟩
  · split
    · split
      · rename_i α m d g s f hh
        obtain ⟨hT, hc⟩ := hS.nest _ _ hh
        exact ⟨FreshC.nest (S := S) (n := 0) hT (by simp) fun i hi => by omega, ⟨_, hT⟩, hc⟩
      · exact ⟨raw, trivial⟩
    · exact ⟨raw, trivial⟩

theorem sl_fresh {ρ' : Loc} {n m k z l : Nat} {i : Int} (h : ρ' (.loc n) = some (k, (0, z))) (hi : i = l) (hl : l ≤ 9223372036854775807) (hz : l * m ≤ z) (c : Nat) (hc : l ≤ c) (hc' : c ≤ 9223372036854775807) (hz' : c * m ≤ z) :
    VRel ρ' (.sl (.loc n) m none i) (.slice (some ⟨k, 0, none⟩) l c) := by
  subst hi
  exact .inr ⟨k, (0, z), c, 0, h, by simp, by simp, by simpa using hc, hc', by simpa using hz', .inr (by simp), by simp⟩

theorem flatten_piece {zl : List Value} {m n j : Nat} (hm : zl.length = m) (hj : j < (List.replicate n zl).length) : (((List.replicate n zl).flatten.drop (j * m)).take m) = zl := by
  simp only [List.length_replicate] at hj
  induction j generalizing n with
  | zero =>
    obtain ⟨n, rfl⟩ : ∃ k, n = k + 1 := ⟨n - 1, by omega⟩
    rw [List.replicate_succ, List.flatten_cons, Nat.zero_mul, List.drop_zero, List.take_append_of_le_length (by omega), List.take_of_length_le (by omega)]
  | succ j ih =>
    obtain ⟨n, rfl⟩ : ∃ k, n = k + 1 := ⟨n - 1, by omega⟩
    have e : (j + 1) * m = m + j * m := by rw [Nat.add_mul]; omega
    rw [List.replicate_succ, List.flatten_cons, e, List.drop_append, List.drop_of_length_le (by omega), List.nil_append, hm, Nat.add_sub_cancel_left]
    exact ih (by omega)

theorem new_sound (hS : SeatOk S) {o : Oper} {ev : Operand → AV} {evr : Operand → Value} {K : Cont → (Nat → AV) → Prop} (hev : ∀ x, VRel ρ (ev x) (evr x)) (hlt : ∀ x, (ev x).lt N)
    (h : newA S o.op ev K) : ∃ c mk, K c mk ∧ Makes S ρ N evr o c mk := by
  obtain ⟨dst, op, ty, pos, after, g⟩ := o
  have lt1 : ∀ n, Blk.lt (n + 1) (.loc n) := fun n m hm => by simp [Blk.root] at hm; omega
  cases op with
  | alloc T =>
    simp only [newA] at h
    obtain ⟨i, z, hi, hz, h⟩ := zero_out h
    have h := natK_out h
    refine ⟨_, _, h, lt1, trivial, fun w => ⟨_, _, z.cells, T, (0, 0), ?_, Grew.push w _ w.drawn, .inl rfl, .raw fun b => ⟨by simp, ?_, map_cst_lt _⟩, fun ρ' n hρ => ⟨_, _, hρ, by simp, rfl⟩⟩⟩
    · simp [execOp, Instr.alloc, zeroValue, typeInfo, hi, hz, newVar, newRow]
    · rw [List.take_of_length_le (by simp)]; exact map_cst_rel _
  | box T x =>
    simp only [newA] at h
    have h := natK_out h
    obtain ⟨cs, h, hr, hl⟩ := cells_rel h (hev x) (hlt x)
    split at h
    · exact h.elim
    refine ⟨_, _, h, lt1, trivial, fun w => ⟨_, _, (evr x).cells, T, (0, 0), ?_, Grew.push w _ w.drawn, .inl rfl, .raw fun b => ⟨by rw [← hr.length]; simp, ?_, hl⟩, fun ρ' n hρ => ⟨_, _, hρ, by simp, rfl⟩⟩⟩
    · simp [execOp, Instr.box, newVar, newRow]
    · rw [List.take_of_length_le (by rw [← hr.length]; simp)]; exact hr
  | buildSlice T n ps =>
    simp only [newA] at h
    split at h
    · rename_i e hT
      obtain ⟨i, z, hi, hz, h⟩ := zero_out h
      have h := natK_out h
      split at h
      · rename_i hm hp hle
        have hm := Nat.eq_of_beq_eq_true hm
        have hp := Nat.le_of_ble_eq_true hp
        have hle := Nat.le_of_ble_eq_true hle
        rw [List.length_map, Array.length_toList] at hm hp hle h
        have h := forceL_out h
        have hzr : VRels ρ (List.replicate n (z.cells.toList.map cst)).flatten ((Array.range (n * z.cells.size)).map (z.cells[· % z.cells.size]!)).toList := by
          rw [zeroCells_list]; exact replicate_rel (map_cst_rel _) n
        obtain ⟨l, cells', hK, hfill, hz', hl', hlen⟩ := fill_run hev hlt (cells := (Array.range (n * z.cells.size)).map (z.cells[· % z.cells.size]!)) h hzr (replicate_lt (map_cst_lt _) n)
        have hlen' : l.length = n * szA S e := by rw [hlen, ← hm]; simp
        have hsz : cells'.size = n * z.cells.size := by have := hz'.length; simp at this; rw [this, hlen', hm]
        have hc := mkCont_lie (ρ := ρ) (N := N) hS hz' hl' hlen'
        refine ⟨_, _, hK, lt1, hc.2, fun w => ⟨_, _, cells', e, (0, 0), ?_, Grew.push w _ w.drawn, .inl rfl, hc.1, fun ρ' k hρ => sl_fresh hρ rfl (by have : n * 1 ≤ n * z.cells.size := Nat.mul_le_mul_left _ hp; omega) (by omega) n (by omega) (by have : n * 1 ≤ n * z.cells.size := Nat.mul_le_mul_left _ hp; omega) (by omega)⟩⟩
        have hsize := run_size (S := S) (T := e) (by omega) w
        have hpa : (ps.map fun (x : Nat × Operand) => (x.1, evr x.2)).toList = ps.toList.map fun p => (p.1, evr p.2) := by simp
        simp only [execOp, Instr.buildSlice, run_und hT, Sem.run_bind, Sem.run_pure, Result.andThen_ok, hsize, ← hm]
        rw [if_neg (by omega)]
        by_cases hn : n * z.cells.size = 0
        · have hn' : n = 0 := by
            rcases Nat.mul_eq_zero.1 hn with q | q
            · exact q
            · omega
          subst hn'
          have e0 : ∀ f : Nat → Value, (Array.range (0 * z.cells.size)).map f = #[] := fun f => by simp [Array.range_zero']
          rw [e0] at hfill
          simp only [if_pos hn, Sem.run_pure, Result.andThen_ok, e0, hpa, hfill]
          simp [newRow]
        · rw [if_neg hn]
          simp only [zeroValue, typeInfo, hi, hz, Sem.run_bind, Sem.run_pure, Result.andThen_ok, run_program, hpa, hfill]
          simp [newRow]
      · exact h.elim
    · exact h.elim
  | makeSlice T l c =>
    simp only [newA] at h
    split at h
    · rename_i e hT
      split at h
      · rename_i α E hh
        split at h
        · rename_i k1 l' e1
          split at h
          · rename_i k2 c' e2
            have h' := natK_out h
            clear h
            obtain ⟨⟨h0, rfl, hb0, hb⟩, h⟩ := h'
            have h := natK_out h
            have hE : EncOk S.P e E := hS.hint _ _ hh
            have hl := hev l; rw [e1] at hl
            have hc := hev c; rw [e2] at hc
            have hl := int_rel hl
            have hc := int_rel hc
            obtain ⟨z, hz, hzr⟩ := hE.zero
            have hm := hE.m
            cases hi : S.P.info? e with
            | none => rw [hi] at hm; simp at hm
            | some i =>
              rw [hi] at hm hz
              simp at hm hz
              obtain ⟨z0, hz0, rfl⟩ := hz
              have hby : bytesA S e = i.bytes := by simp [bytesA, hi]
              have hpos := hE.pos
              have hzl : z0.cells.size = E.m := by have := (hzr ρ).length; rw [hE.len] at this; simpa using this
              have hrun := fun w => run_make (P := S.P) w T e i z0 hT hi hz0 k1 k2 l' l' h0 (Int.le_refl _) (by rw [hby] at hb; rw [Int.mul_comm]; omega) (by omega)
              have hmade : (madeCells z0.cells (l'.toNat * i.size)).toList = (List.replicate l'.toNat z0.cells.toList).flatten := by
                rw [hm, ← hzl]; exact zeroCells_list _ _
              have hms : (madeCells z0.cells (l'.toNat * i.size)).size = l'.toNat * E.m := by rw [size_madeCells, hm]
              refine ⟨_, _, h, lt1, ⟨_, hE⟩, fun w => ⟨_, _, madeCells z0.cells (l'.toNat * i.size), e, (0, 0), ?_, Grew.push w _ w.drawn, .inl rfl, .arr fun b => ⟨by simp [hms], fun j hj => ⟨?_, hE.plain _ _⟩⟩,
                fun ρ' k hρ => sl_fresh hρ (by omega) (by omega) (by omega) l'.toNat (Nat.le_refl _) (by omega) (by omega)⟩⟩
              · simp only [execOp, hl, hc, Sem.run_bind, hrun, Result.andThen_ok, Sem.run_pure]
                simp [World.alloc, -World.alloc_eq]
              · rw [hmade, flatten_piece (by simpa using hzl) (by simpa using hj)]
                rw [List.length_replicate] at hj
                show VRels ρ (E.cells ((List.replicate l'.toNat E.d).getD j E.d)) _
                rw [List.getD_eq_getElem?_getD, List.getElem?_replicate, if_pos hj]
                exact hzr ρ
          · exact h.elim
        · exact h.elim
      · split at h
        · rename_i α m d g s f hh
          split at h
          · rename_i k1 l' e1
            split at h
            · rename_i k2 c' e2
              have h' := natK_out h
              clear h
              obtain ⟨⟨h0, rfl, hb0, hb⟩, h⟩ := h'
              have h := natK_out h
              obtain ⟨hT0, hcont⟩ := hS.nest _ _ hh
              have hl := hev l; rw [e1] at hl
              have hc := hev c; rw [e2] at hc
              have hl := int_rel hl
              have hc := int_rel hc
              obtain ⟨z, hz, hzr⟩ := hT0.zero
              have hm := hT0.siz
              cases hi : S.P.info? e with
              | none => rw [hi] at hm; simp at hm
              | some i =>
                rw [hi] at hm hz
                simp at hm hz
                obtain ⟨z0, hz0, rfl⟩ := hz
                have hby : bytesA S e = i.bytes := by simp [bytesA, hi]
                have hpos := hT0.pos
                have hzl : z0.cells.size = m := by have := (hzr (fun _ => none) (fun _ => .loc 0) (fun _ _ => rfl)).length; rw [hT0.len] at this; simpa using this
                have hrun := fun w => run_make (P := S.P) w T e i z0 hT hi hz0 k1 k2 l' l' h0 (Int.le_refl _) (by rw [hby] at hb; rw [Int.mul_comm]; omega) (by omega)
                have hmade : (madeCells z0.cells (l'.toNat * i.size)).toList = (List.replicate l'.toNat z0.cells.toList).flatten := by
                  rw [hm, ← hzl]; exact zeroCells_list _ _
                have hms : (madeCells z0.cells (l'.toNat * i.size)).size = l'.toNat * m := by rw [size_madeCells, hm]
                refine ⟨_, _, h, lt1, ⟨⟨_, hT0⟩, hcont⟩, fun w => ⟨_, _, madeCells z0.cells (l'.toNat * i.size), e, (0, 0), ?_, Grew.push w _ w.drawn, .inl rfl, FreshC.nest (S := S) hT0 (by simp [hms]) fun j hj => ⟨z0.cells.toList, by simp [hi, hz0], ?_⟩,
                  fun ρ' k hρ => sl_fresh hρ (by omega) (by omega) (by omega) l'.toNat (Nat.le_refl _) (by omega) (by omega)⟩⟩
                · simp only [execOp, hl, hc, Sem.run_bind, hrun, Result.andThen_ok, Sem.run_pure]
                  simp [World.alloc, -World.alloc_eq]
                · rw [hmade, flatten_piece (by simpa using hzl) (by simpa using hj)]
            · exact h.elim
          · exact h.elim
        · exact h.elim
    · exact h.elim
  | convert s d x =>
    simp only [newA] at h
    split at h
    · rename_i e hs hd
      split at h
      · rename_i he
        split at h
        · rename_i α E hh
          split at h
          · rename_i t et
            obtain ⟨ys, ⟨hm, hys⟩, h⟩ := h
            have hx := hev x
            rw [et] at hx
            obtain ⟨a, er, rfl, hb⟩ := hx
            have hE : EncOk S.P e E := hS.hint _ _ hh
            have hlen : ys.length = a.size := by have := congrArg List.length hys; simpa [bytesL_length] using this.symm
            have hcap : ∀ w : World, a.size ≤ grownCap w a.size 0 e ∧ grownCap w a.size 0 e ≤ 9223372036854775807 := fun w => ⟨by simp [grownCap, Question.cut], by have := grownCap_le_maxLen w a.size 0 e (by simpa [maxLen] using hb); simpa [maxLen] using this⟩
            have hsz : ∀ w : World, (Lib.bytesCells w e a).size = grownCap w a.size 0 e := fun w => by
              have h1 := (hcap w).1
              have h2 : (Lib.bytesCells w e a).size = a.data.size + (grownCap w a.size 0 e - a.size) := by simp [Lib.bytesCells]
              have h3 : a.data.size = a.size := rfl
              omega
            refine ⟨_, _, h, lt1, ⟨_, hE⟩, fun w => ⟨_, _, Lib.bytesCells w e a, e, _, ?_, ⟨Lib.bytesWorld_size w e a, fun j hj => Lib.bytesWorld_at_old w e a j hj, Lib.bytesWorld_at_new w e a, ?_, ?_, ?_⟩, .inr (Nat.le_refl _), .arr fun b => ⟨by rw [hlen, hm, hsz]; have := (hcap w).1; omega, fun j hj => ⟨?_, hE.plain _ _⟩⟩,
              fun ρ' k hρ => sl_fresh hρ (by simp [bytesL_length]) hb (by rw [hsz]; have := (hcap w).1; omega) _ (hcap w).1 (hcap w).2 (by rw [hsz]; omega)⟩⟩
            · have := Lib.run_convert_string_bytes w s d e a hs hd he
              simp only [execOp, er, Sem.run_bind, this, Result.andThen_ok, Sem.run_pure]
            · simp [Lib.bytesWorld, World.freeze, World.alloc, World.drew, -World.alloc_eq, -World.drew_eq]
            · simp [Lib.bytesWorld, World.freeze, World.alloc, World.drew, -World.alloc_eq, -World.drew_eq]
            · simp [Lib.bytesWorld, World.freeze, World.alloc, World.drew, -World.alloc_eq, -World.drew_eq]
            · have hj' : j < (bytesL a).length := by rw [bytesL_length]; omega
              have e1 : E.cells (ys.getD j E.d) = [.int .u8 ((bytesL a)[j])] := by
                have := congrArg (fun l => l[j]?) hys
                simp only [List.getElem?_map, List.getElem?_eq_getElem hj, List.getElem?_eq_getElem hj', Option.map_some, Option.some.injEq] at this
                rw [List.getD_eq_getElem?_getD, List.getElem?_eq_getElem hj, Option.getD_some, ← this]
              show VRels ρ (E.cells (ys.getD j E.d)) _
              rw [e1, hm]
              have e2 : (((Lib.bytesCells w e a).toList.drop (j * 1)).take 1) = [Value.int .u8 ((bytesL a)[j])] := by
                have hj2 : j < a.data.toList.length := by simpa [bytesL] using hj'
                have hd1 : (Lib.bytesCells w e a).toList = (bytesL a).map (Value.int .u8) ++ List.replicate (grownCap w a.size 0 e - a.size) (.int .u8 0) := by
                  simp [Lib.bytesCells, bytesL, Function.comp_def]
                rw [hd1, Nat.mul_one, List.drop_append_of_le_length (by simp; omega), List.drop_eq_getElem_cons (by simpa using hj')]
                simp
              rw [e2]
              exact ⟨_, _, rfl, rfl, rfl⟩
          · exact h.elim
        · exact h.elim
      · exact h.elim
    · exact h.elim
  | _ => exact h.elim
end
end Go.Vm

namespace Go.Vm
open Go.RowKit
section
variable {S : Seat} {H : Heap} {w w' : World} {N N' : Nat}

/-- cells that may be turned -/
def RwF (ρ : Lay) (H : Heap) : Foot := fun k c => ∃ e ∈ H.ents, e.rw = true ∧ ρ.foot e.b k c

/-- cells that are as they were, and blocks -/
structure Kept (P : Foot) (w w' : World) : Prop where
  obj : ∀ k o, w.heap[k]? = some o → (∀ c, P k c) → w'.heap[k]? = some o
  cells : KeepF P w w'
theorem Kept.refl (P : Foot) (w : World) : Kept P w w := ⟨fun _ _ h _ => h, .refl _ _⟩
theorem Kept.mono {P Q : Foot} (h : Kept P w w') (hg : ∀ k c, Q k c → P k c) : Kept Q w w' := ⟨fun k o e q => h.obj k o e fun c => hg k c (q c), h.cells.mono hg⟩
theorem Kept.trans {P Q : Foot} {w'' : World} (h : Kept P w w') (h' : Kept Q w' w'') (hq : ∀ k c, k < w.heap.size → P k c → Q k c) : Kept P w w'' := by
  have lt : ∀ {k : Nat} {o : Obj}, w.heap[k]? = some o → k < w.heap.size := fun e => (Array.getElem?_eq_some_iff.1 e).1
  refine ⟨fun k o e p => h'.obj k o (h.obj k o e p) fun c => hq k c (lt e) (p c), fun k arr T fz e => ?_⟩
  obtain ⟨a1, f1, g1, g2, g3, g4⟩ := h.cells k arr T fz e
  obtain ⟨a2, f2, k1, k2, k3, k4⟩ := h'.cells k a1 T f1 g1
  refine ⟨a2, f2, k1, k2.trans g2, fun q => ?_, fun c p => (k4 c (hq k c (lt e) p)).trans (g4 c p)⟩
  exact k3 (g3 q)
/-- all is as it was but cells of one block -/
theorem Kept.one {k : Nat} {z : Nat × Nat} {arr arr' : Array Value} {T : TypeId} {fz fz' : Nat × Nat} (h0 : w.heap[k]? = some (.cells arr T fz)) (h1 : w'.heap[k]? = some (.cells arr' T fz')) (hs : arr'.size = arr.size) (hf : FzOk fz arr → FzOk fz' arr')
    (hz : 0 < z.2) (hc : ∀ c, ¬ inZ z c → arr'[c]? = arr[c]?) (ho : ∀ j, j ≠ k → w'.heap[j]? = w.heap[j]?) : Kept (fun k' c => ¬ (k' = k ∧ inZ z c)) w w' := by
  refine ⟨fun j o e p => ?_, fun j a T' f e => ?_⟩
  · by_cases hj : j = k
    · exact absurd ⟨hj, Nat.le_refl _, by omega⟩ (p z.1)
    · rw [ho j hj]; exact e
  · by_cases hj : j = k
    · subst hj
      rw [h0] at e
      simp at e
      obtain ⟨rfl, rfl, rfl⟩ := e
      exact ⟨arr', fz', h1, hs, hf, fun c p => hc c fun q => p ⟨rfl, q⟩⟩
    · exact ⟨a, f, by rw [ho j hj]; exact e, rfl, id, fun _ _ => rfl⟩

/-- how memory may have turned -/
structure After (S : Seat) (ρ : Lay) (H : Heap) (w : World) (ρ' : Lay) (H' : Heap) (w' : World) : Prop where
  next : H.next ≤ H'.next
  agree : Agree H.next ρ ρ'
  heap : HRel S ρ' H' w'
  size : w.heap.size ≤ w'.heap.size
  frame : Kept (fun k c => ¬ RwF ρ H k c) w w'
  own : ∀ k c, RwF ρ' H' k c → w.heap.size ≤ k ∨ RwF ρ H k c
  os : w'.os = w.os
  tape : w'.tape = w.tape
  output : w'.output = w.output

section
variable {ρ ρ' : Lay}
theorem After.refl (h : HRel S ρ H w) : After S ρ H w ρ H w :=
  ⟨Nat.le_refl _, .refl _ _, h, Nat.le_refl _, .refl _ _, fun _ _ h => .inr h, rfl, rfl, rfl⟩

theorem After.trans {ρ'' : Lay} {H' H'' : Heap} {w'' : World} (h : After S ρ H w ρ' H' w') (k : After S ρ' H' w' ρ'' H'' w'') : After S ρ H w ρ'' H'' w'' where
  next := Nat.le_trans h.next k.next
  agree := h.agree.trans k.agree h.next
  heap := k.heap
  size := Nat.le_trans h.size k.size
  frame := h.frame.trans k.frame fun i c hi p q => by
    rcases h.own i c q with q | q
    · omega
    · exact p q
  own := fun i c hi => by
    rcases k.own i c hi with q | q
    · left; have := h.size; omega
    · exact h.own i c q
  os := k.os.trans h.os
  tape := k.tape.trans h.tape
  output := k.output.trans h.output
end

def setE : List Ent → Blk → Cont → List Ent
  | [], _, _ => []
  | e :: r, b, c => match Blk.beq e.b b with
    | true => ⟨e.b, e.rw, c⟩ :: r
    | false => e :: setE r b c
theorem setK_out : ∀ {l : List Ent} {b : Blk} {c : Cont} {K : List Ent → Prop}, setK l b c K → K (setE l b c)
  | [], _, _, _, h => h
  | e :: r, b, c, K, h => by
    unfold setK at h
    unfold setE
    split at h
    · rename_i q; rw [q]; exact h
    · rename_i q; rw [q]; exact setK_out (K := fun r => K (e :: r)) h
theorem setH_out {H : Heap} {b : Blk} {c : Cont} {K : Heap → Prop} (h : setH H b c K) : K ⟨setE H.ents b c, H.next⟩ := by
  obtain ⟨l, nx⟩ := H
  have h : c.force fun c => setK l b c fun l => K ⟨l, nx⟩ := h
  exact setK_out (K := fun l => K ⟨l, nx⟩) (Cont.force_out h)
def delE : List Ent → Blk → List Ent
  | [], _ => []
  | e :: r, b => match Blk.beq e.b b with
    | true => r
    | false => e :: delE r b
theorem delK_out : ∀ {l : List Ent} {b : Blk} {K : List Ent → Prop}, delK l b K → K (delE l b)
  | [], _, _, h => h
  | e :: r, b, K, h => by
    unfold delK at h
    unfold delE
    split at h
    · rename_i q; rw [q]; exact h
    · rename_i q; rw [q]; exact delK_out (K := fun r => K (e :: r)) h
theorem delE_sub : ∀ (l : List Ent) (b : Blk), (delE l b).Sublist l
  | [], _ => .slnil
  | e :: r, b => by
    unfold delE
    split
    · exact List.sublist_cons_self _ _
    · exact (delE_sub r b).cons_cons _

theorem setE_mem : ∀ {l : List Ent} {b : Blk} {c : Cont} {e : Ent}, getE l b = some e → l.Pairwise (fun e e' => e.b ≠ e'.b) →
    ∀ x ∈ setE l b c, x = ⟨b, e.rw, c⟩ ∨ (x ∈ l ∧ x.b ≠ b)
  | [], _, _, _, h, _, x, hx => by simp [getE] at h
  | a :: r, b, c, e, h, hp, x, hx => by
    unfold getE at h
    unfold setE at hx
    rw [List.pairwise_cons] at hp
    split at h
    · rename_i q
      rw [q] at hx
      simp at h; subst h
      have hb := Blk.beq_eq q
      simp only [List.mem_cons] at hx
      rcases hx with rfl | hx
      · left; rw [hb]
      · right; exact ⟨List.mem_cons_of_mem _ hx, fun e' => hp.1 x hx (by rw [hb, e'])⟩
    · rename_i q
      rw [q] at hx
      simp only [List.mem_cons] at hx
      rcases hx with rfl | hx
      · right
        refine ⟨List.mem_cons_self, fun e' => ?_⟩
        obtain ⟨h1, h2⟩ := getE_mem h
        exact hp.1 e h1 (by rw [e', h2])
      · rcases setE_mem h hp.2 x hx with q | q
        · exact .inl q
        · exact .inr ⟨List.mem_cons_of_mem _ q.1, q.2⟩
theorem setE_keys : ∀ {l : List Ent} {b : Blk} {c : Cont}, l.Pairwise (fun e e' => e.b ≠ e'.b) → (setE l b c).Pairwise (fun e e' => e.b ≠ e'.b) := by
  intro l b c h
  have hm : (setE l b c).map (·.b) = l.map (·.b) := by
    clear h
    induction l with
    | nil => rfl
    | cons e r ih =>
      unfold setE
      split
      · simp
      · simp [ih]
  have := List.pairwise_map.2 h
  rw [← hm] at this
  exact List.pairwise_map.1 this

section
variable {ρ ρ' : Lay}
/-- what lies apart from the cells that turned holds still -/
theorem HRel.rest (h : HRel S ρ H w) {b : Blk} {e : Ent} (hm : e ∈ H.ents) (hkey : e.b = b) (hrw : e.rw = true) {P : Foot} (hP : ∀ k c, ¬ P k c → ρ.foot b k c) (hw : Kept P w w') {ρ' : Lay} (ha : Agree H.next ρ ρ') (hN : H.next ≤ N') {x : Ent} (hx : x ∈ H.ents) (hxb : x.b ≠ b) :
    HoldsE ρ' N' w' x.rw x.c x.b (ρ.foot x.b) :=
  (h.holds x hx).turn (h.enc x hx) (h.key x hx).1 ha hN (hw.cells.mono fun k c q => Classical.byContradiction fun p => h.sep x hx e hm (.inr hrw) (by rw [hkey]; exact hxb) k c q (by rw [hkey]; exact hP k c p))

/-- a block's content turned -/
theorem HRel.update (h : HRel S ρ H w) {b : Blk} {e : Ent} {c : Cont} {P : Foot} (he : getE H.ents b = some e) (hrw : e.rw = true)
    (hok : ContOk S c) (hP : ∀ k c, ¬ P k c → ρ.foot b k c) (hw : Kept P w w') (hh : HoldsE ρ H.next w' true c b (ρ.foot b)) (hs : w.heap.size ≤ w'.heap.size)
    (ho : w'.os = w.os) (ht : w'.tape = w.tape) (hout : w'.output = w.output) : After S ρ H w ρ ⟨setE H.ents b c, H.next⟩ w' := by
  obtain ⟨hm, hkey⟩ := getE_mem he
  have hmem := setE_mem (c := c) he h.keys
  have back : ∀ x ∈ setE H.ents b c, ∃ y ∈ H.ents, y.b = x.b ∧ y.rw = x.rw := by
    intro x hx
    rcases hmem x hx with rfl | ⟨q1, q2⟩
    · exact ⟨e, hm, hkey, rfl⟩
    · exact ⟨x, q1, rfl, rfl⟩
  refine ⟨Nat.le_refl _, .refl _ _, ⟨?_, ?_, ?_, setE_keys h.keys, h.glob, fun x hx => ?_, fun x hx k c q => ?_, fun x hx q => ?_⟩, hs, hw.mono ?_, ?_, ho, ht, hout⟩
  · intro x hx
    rcases hmem x hx with rfl | ⟨q1, q2⟩
    · rw [hrw]; exact hh
    · exact h.rest hm hkey hrw hP hw (.refl _ _) (Nat.le_refl _) q1 q2
  · intro x hx
    obtain ⟨y, q1, q2, q3⟩ := back x hx
    exact q2 ▸ h.key y q1
  · intro x hx x' hx' hor hne
    obtain ⟨y, q1, q2, q3⟩ := back x hx
    obtain ⟨y', p1, p2, p3⟩ := back x' hx'
    rw [← q2, ← p2]
    exact h.sep y q1 y' p1 (by rw [q3, p3]; exact hor) (by rw [q2, p2]; exact hne)
  · rcases hmem x hx with rfl | ⟨q1, _⟩
    · exact hok
    · exact h.enc x q1
  · obtain ⟨y, q1, q2, _⟩ := back x hx
    exact Nat.lt_of_lt_of_le (h.low y q1 k c (by rw [q2]; exact q)) hs
  · obtain ⟨y, q1, q2, q3⟩ := back x hx
    rw [← q2]
    exact h.root y q1 (q3.trans q)
  · intro k c' q
    exact Classical.byContradiction fun p => q ⟨e, hm, hrw, by rw [hkey]; exact hP k c' p⟩
  · rintro k c' ⟨x, hx, hxr, q⟩
    obtain ⟨y, q1, q2, q3⟩ := back x hx
    exact .inr ⟨y, q1, q3.trans hxr, by rw [q2]; exact q⟩

def Loc.set (ρ : Loc) (n : Nat) (o : Option (Nat × (Nat × Nat))) : Loc := fun b => match b with
  | .loc m => if m = n then o else ρ (.loc m)
  | b => ρ b
theorem Loc.set_agree (ρ : Loc) (n : Nat) (o : Option (Nat × (Nat × Nat))) : Agree n ρ (ρ.set n o) := by
  intro b hb
  cases b with
  | loc m => have := hb m rfl; simp [Loc.set]; omega
  | glob g => rfl
  | sub b i j => rfl
theorem Loc.set_self (ρ : Loc) (n : Nat) (o : Option (Nat × (Nat × Nat))) : ρ.set n o (.loc n) = o := by simp [Loc.set]
open Classical in
/-- a name more -/
noncomputable def Lay.set (ρ : Lay) (n : Nat) (o : Option (Nat × (Nat × Nat))) (F : Foot) : Lay := ⟨ρ.loc.set n o, fun b => if b = .loc n then F else ρ.foot b⟩
theorem Lay.set_agree (ρ : Lay) (n : Nat) (o : Option (Nat × (Nat × Nat))) (F : Foot) : Agree n ρ (ρ.set n o F) := Loc.set_agree _ _ _
theorem Lay.set_self (ρ : Lay) (n : Nat) (o : Option (Nat × (Nat × Nat))) (F : Foot) : (ρ.set n o F).loc (.loc n) = o := Loc.set_self _ _ _
theorem Lay.set_foot (ρ : Lay) (n : Nat) (o : Option (Nat × (Nat × Nat))) (F : Foot) : (ρ.set n o F).foot (.loc n) = F := by simp [Lay.set]
theorem Lay.set_old (ρ : Lay) {n : Nat} (o : Option (Nat × (Nat × Nat))) (F : Foot) {b : Blk} (h : b.lt n) : (ρ.set n o F).foot b = ρ.foot b := by
  have : b ≠ .loc n := fun q => by have := h n (by rw [q]; rfl); omega
  simp [Lay.set, this]

/-- told cells lie in memory -/
theorem Holds.size {ρ : Loc} {rw : Bool} : ∀ {c : Cont} {b : Blk} {F : Foot}, Holds ρ N w rw c b F → ∃ G : Foot, Holds ρ N w rw c b G ∧ (∀ k c, G k c → F k c) ∧ ∀ k c, G k c → k < w.heap.size := by
  have one : ∀ {c : Cont} {b : Blk}, Lies ρ N w rw b c → ∀ k c, regF (ρ b) k c → k < w.heap.size := by
    rintro c b hl k c' ⟨z, hb, _⟩
    simp only [Lies, hb] at hl
    obtain ⟨arr, T, fz, h1, _⟩ := hl
    exact (Array.getElem?_eq_some_iff.1 h1).1
  intro c
  induction c with
  | raw vs => intro b F h; exact ⟨regF (ρ b), ⟨h.1, fun _ _ q => q⟩, h.2, one h.1⟩
  | arr E xs => intro b F h; exact ⟨regF (ρ b), ⟨h.1, fun _ _ q => q⟩, h.2, one h.1⟩
  | nest m d g s f xs o ih =>
    intro b F h
    obtain ⟨⟨h1, h2⟩, Fs, h3, h4, h5⟩ := h
    have hh : ∀ i j, ∃ G : Foot, i < xs.length → liveP o i → j ∈ s → Holds ρ N w rw (f (xs.getD i d) j) (.sub b i j) G ∧ (∀ k c, G k c → Fs i j k c) ∧ ∀ k c, G k c → k < w.heap.size := by
      intro i j
      by_cases q : i < xs.length ∧ liveP o i ∧ j ∈ s
      · obtain ⟨q1, q2, q3⟩ := q
        obtain ⟨G, g⟩ := ih _ _ (h3 i q1 q2 j q3)
        exact ⟨G, fun _ _ _ => g⟩
      · exact ⟨fun _ _ => False, fun q1 q2 q3 => absurd ⟨q1, q2, q3⟩ q⟩
    let Gs : Nat → Nat → Foot := fun i j => Classical.choose (hh i j)
    have hG : ∀ i j, i < xs.length → liveP o i → j ∈ s → Holds ρ N w rw (f (xs.getD i d) j) (.sub b i j) (Gs i j) ∧ (∀ k c, Gs i j k c → Fs i j k c) ∧ ∀ k c, Gs i j k c → k < w.heap.size := fun i j => Classical.choose_spec (hh i j)
    refine ⟨fun k c => regF (ρ b) k c ∨ ∃ i j, (i < xs.length ∧ liveP o i ∧ j ∈ s) ∧ Gs i j k c, ⟨⟨h1, fun _ _ q => .inl q⟩, Gs, fun i q1 q2 j q3 => (hG i j q1 q2 q3).1, fun i q1 q2 j q3 k c p => .inr ⟨i, j, ⟨q1, q2, q3⟩, p⟩, fun hr => ?_⟩, ?_, ?_⟩
    · obtain ⟨h6, h7⟩ := h5 hr
      exact ⟨fun i q1 q2 j q3 k c p1 p2 => h6 i q1 q2 j q3 k c p1 ((hG i j q1 q2 q3).2.1 k c p2), fun i q1 q2 j q3 i' r1 r2 j' r3 hne k c p1 p2 => h7 i q1 q2 j q3 i' r1 r2 j' r3 hne k c ((hG i j q1 q2 q3).2.1 k c p1) ((hG i' j' r1 r2 r3).2.1 k c p2)⟩
    · rintro k c (q | ⟨i, j, ⟨q1, q2, q3⟩, p⟩)
      · exact h2 k c q
      · exact h4 i q1 q2 j q3 k c ((hG i j q1 q2 q3).2.1 k c p)
    · rintro k c (q | ⟨i, j, ⟨q1, q2, q3⟩, p⟩)
      · exact one h1 k c q
      · exact (hG i j q1 q2 q3).2.2 k c p
end

section
variable {ρ ρ' : Lay}
/-- one entry more, under a new name -/
theorem HRel.add (h : HRel S ρ H w) {c : Cont} {o : Option (Nat × (Nat × Nat))} {F : Foot} {l : List Ent} {rw : Bool} (hl : l.Sublist H.ents) (hok : ContOk S c) (hs : w.heap.size ≤ w'.heap.size)
    (hh : HoldsE (ρ.set H.next o F) (H.next + 1) w' rw c (.loc H.next) F) (hold : ∀ x ∈ l, HoldsE (ρ.set H.next o F) (H.next + 1) w' x.rw x.c x.b (ρ.foot x.b))
    (hsep : ∀ x ∈ l, (rw = true ∨ x.rw = true) → Disj F (ρ.foot x.b)) (hlow : ∀ k c, F k c → k < w'.heap.size) : HRel S (ρ.set H.next o F) ⟨⟨.loc H.next, rw, c⟩ :: l, H.next + 1⟩ w' := by
  have hold' : ∀ x ∈ l, (ρ.set H.next o F).foot x.b = ρ.foot x.b := fun x hx => Lay.set_old _ _ _ (h.key x (hl.subset hx)).1
  refine ⟨?_, ?_, ?_, ?_, ?_, ?_, ?_, ?_⟩
  · intro x hx
    rcases List.mem_cons.1 hx with rfl | hx
    · simp only; rw [Lay.set_foot]; exact hh
    · rw [hold' x hx]; exact hold x hx
  · intro x hx
    rcases List.mem_cons.1 hx with rfl | hx
    · exact ⟨fun n hn => by simp [Blk.root] at hn; show n < H.next + 1; omega, trivial⟩
    · exact ⟨(h.key x (hl.subset hx)).1.mono (by simp), (h.key x (hl.subset hx)).2⟩
  · intro x hx y hy hor hne
    rcases List.mem_cons.1 hx with rfl | hx <;> rcases List.mem_cons.1 hy with rfl | hy
    · exact absurd rfl hne
    · simp only; rw [Lay.set_foot, hold' y hy]; exact hsep y hy hor
    · simp only; rw [Lay.set_foot, hold' x hx]; exact (hsep x hx hor.symm).symm
    · rw [hold' x hx, hold' y hy]; exact h.sep x (hl.subset hx) y (hl.subset hy) hor hne
  · rw [List.pairwise_cons]
    refine ⟨fun x hx q => ?_, h.keys.sublist hl⟩
    have := (h.key x (hl.subset hx)).1 H.next (by rw [← q]; rfl)
    omega
  · intro g; exact h.glob g
  · intro x hx
    rcases List.mem_cons.1 hx with rfl | hx
    · exact hok
    · exact h.enc x (hl.subset hx)
  · intro x hx k c q
    rcases List.mem_cons.1 hx with rfl | hx
    · simp only at q; rw [Lay.set_foot] at q; exact hlow k c q
    · rw [hold' x hx] at q; exact Nat.lt_of_lt_of_le (h.low x (hl.subset hx) k c q) hs
  · intro x hx q
    rcases List.mem_cons.1 hx with rfl | hx
    · simp [Blk.root]
    · exact h.root x (hl.subset hx) q

theorem keepF_grew {o : Obj} (hg : Grew w w' o) (F : Foot) : KeepF F w w' := fun k arr T fz e =>
  ⟨arr, fz, (hg.old k (Array.getElem?_eq_some_iff.1 e).1).trans e, rfl, id, fun _ _ => rfl⟩

/-- a block more -/
theorem HRel.push (h : HRel S ρ H w) {c : Cont} {arr : Array Value} {T : TypeId} {fz : Nat × Nat} (hg : Grew w w' (.cells arr T fz)) (hf : FzOk fz arr)
    (hok : ContOk S c) (hl : FreshC ρ H.next arr c) : After S ρ H w (ρ.set H.next (some (w.heap.size, (0, arr.size))) (regF (some (w.heap.size, (0, arr.size))))) ⟨⟨.loc H.next, true, c⟩ :: H.ents, H.next + 1⟩ w' := by
  have ha := Lay.set_agree ρ H.next (some (w.heap.size, (0, arr.size))) (regF (some (w.heap.size, (0, arr.size))))
  have hsz : w.heap.size ≤ w'.heap.size := by rw [hg.size]; omega
  have reg : ∀ k c, regF (some (w.heap.size, (0, arr.size))) k c → k = w.heap.size := by rintro k c ⟨z, q, _⟩; simp at q; exact q.1.symm
  refine ⟨by simp, ha, h.add (List.Sublist.refl _) hok hsz ?_ (fun x hx => ?_) (fun x hx _ k c' q p => ?_) (fun k c' q => ?_), hsz, ⟨fun k o e _ => (hg.old k (Array.getElem?_eq_some_iff.1 e).1).trans e, keepF_grew hg _⟩, ?_, hg.os, hg.tape, hg.output⟩
  · have := hl (ρ.set H.next (some (w.heap.size, (0, arr.size))) (regF (some (w.heap.size, (0, arr.size))))).loc (H.next + 1) (.loc H.next) w' w.heap.size T fz ha (by omega) (Lay.set_self _ _ _ _) hg.new hf
    rw [Lay.set_self] at this
    exact this
  · exact (h.holds x hx).turn (h.enc x hx) (h.key x hx).1 ha (by simp) (keepF_grew hg _)
  · have := reg k c' q
    have := h.low x hx k c' p
    omega
  · have := reg k c' q
    rw [hg.size]; omega
  · rintro k c' ⟨x, hx, hxr, q⟩
    rcases List.mem_cons.1 hx with rfl | hx
    · simp only at q; rw [Lay.set_foot] at q
      left; have := reg k c' q; omega
    · rw [Lay.set_old _ _ _ (h.key x hx).1] at q
      exact .inr ⟨x, hx, hxr, q⟩

/-- less told -/
theorem HRel.sub (h : HRel S ρ H w) {l : List Ent} (hl : l.Sublist H.ents) : HRel S ρ ⟨l, H.next⟩ w :=
  ⟨fun e he => h.holds e (hl.subset he), fun e he => h.key e (hl.subset he), fun e he e' he' => h.sep e (hl.subset he) e' (hl.subset he'), h.keys.sublist hl, h.glob, fun e he => h.enc e (hl.subset he), fun e he => h.low e (hl.subset he), fun e he => h.root e (hl.subset he)⟩
theorem RwF.sub {l : List Ent} (hl : l.Sublist H.ents) {k c : Nat} (h : RwF ρ ⟨l, H.next⟩ k c) : RwF ρ H k c := by
  obtain ⟨e, he, r⟩ := h
  exact ⟨e, hl.subset he, r⟩
/-- less told, behind a turn -/
theorem After.sub {H' : Heap} (h : After S ρ H w ρ' H' w') {l : List Ent} (hl : l.Sublist H'.ents) : After S ρ H w ρ' ⟨l, H'.next⟩ w' :=
  ⟨h.next, h.agree, h.heap.sub hl, h.size, h.frame, fun k c hk => h.own k c (hk.sub hl), h.os, h.tape, h.output⟩
end
end

/-! ### other names -/
def ext (b : Blk) : List (Int × Nat) → Blk
  | [] => b
  | (i, j) :: r => ext (.sub b i j) r
def SameUnder (ρ ρ' : Loc) (b1 b2 : Blk) : Prop := ∀ p, ρ' (ext b2 p) = ρ (ext b1 p)
theorem SameUnder.self {ρ ρ' : Loc} {b1 b2 : Blk} (h : SameUnder ρ ρ' b1 b2) : ρ' b2 = ρ b1 := h []
theorem SameUnder.sub {ρ ρ' : Loc} {b1 b2 : Blk} (h : SameUnder ρ ρ' b1 b2) (i : Int) (j : Nat) : SameUnder ρ ρ' (.sub b1 i j) (.sub b2 i j) := fun p => h ((i, j) :: p)

theorem Holds.ren {S : Seat} {ρ ρ' : Loc} {N N' : Nat} {w : World} {rw : Bool} (h0 : Agree 0 ρ ρ') : ∀ {c : Cont} {b1 b2 : Blk} {F : Foot}, ContOk S c → (∀ vs, c ≠ .raw vs) → SameUnder ρ ρ' b1 b2 → Holds ρ N w rw c b1 F → Holds ρ' N' w rw c b2 F
  | .raw vs, _, _, _, _, hc, _, _ => absurd rfl (hc vs)
  | .arr E xs, b1, b2, F, hok, hc, hs, h => by
    refine ⟨?_, fun k c q => h.2 k c (hs.self ▸ q)⟩
    have hl := h.1
    obtain ⟨T, hE⟩ := hok
    unfold Lies at hl ⊢
    rw [hs.self]
    split at hl
    · exact hl
    · obtain ⟨arr, T, fz, h1, h2, h3, h4, h5⟩ := hl
      refine ⟨arr, T, fz, h1, h2, h3, h4, fun i hi => ⟨?_, hE.plain _ _⟩⟩
      have := (h5 i hi).1
      exact VRels.agree h0 (hE.plain _ 0) this
  | .nest m d g s f xs o, b1, b2, F, hok, hc, hs, h => by
    obtain ⟨⟨hl, hr⟩, Fs, h3, h4, h5⟩ := h
    obtain ⟨⟨T, hT⟩, hsub⟩ := hok
    refine ⟨⟨?_, fun k c q => hr k c (hs.self ▸ q)⟩, Fs, fun i hi hv j hj => ?_, h4, fun q => ?_⟩
    · unfold Lies at hl ⊢
      rw [hs.self]
      split at hl
      · exact hl
      · obtain ⟨arr, T, fz, g1, g2, g3, g4, g5⟩ := hl
        exact ⟨arr, T, fz, g1, g2, g3, g4, fun i hi hv => hT.ren _ _ _ _ _ _ (fun j _ => (hs.sub i j).self) (g5 i hi hv)⟩
    · refine Holds.ren h0 (hsub _ _).1 (fun vs q => ?_) (hs.sub i j) (h3 i hi hv j hj)
      have := (hsub (xs.getD i d) j).2
      rw [q] at this
      exact this
    · rw [hs.self]; exact h5 q

open Classical in
noncomputable def rebase (b2 b1 : Blk) : Blk → Blk
  | .sub c i j => if Blk.sub c i j = b2 then b1 else .sub (rebase b2 b1 c) i j
  | .loc n => if Blk.loc n = b2 then b1 else .loc n
  | .glob n => if Blk.glob n = b2 then b1 else .glob n
theorem rebase_self (b2 b1 : Blk) : rebase b2 b1 b2 = b1 := by cases b2 <;> simp [rebase]
theorem ext_under (b : Blk) : ∀ (p : List (Int × Nat)) (c : Blk), (c = b ∨ Under b c) → ext c p = b ∧ p = [] ∨ Under b (ext c p)
  | [], c, h => by
    rcases h with rfl | h
    · exact .inl ⟨rfl, rfl⟩
    · exact .inr h
  | (i, j) :: r, c, h => by
    rcases ext_under b r (.sub c i j) (.inr h) with ⟨q, _⟩ | q
    · -- impossible: a block within is not the block
      exfalso
      have hu : ∀ (p : List (Int × Nat)) (x : Blk), Under b x → Under b (ext x p) := by
        intro p
        induction p with
        | nil => intro x hx; exact hx
        | cons a p ih => intro x hx; exact ih _ (.inr hx)
      have := hu r (.sub c i j) h
      rw [q] at this
      exact not_under_self b this
    · exact .inr q
theorem rebase_ext {b2 b1 : Blk} : ∀ (p : List (Int × Nat)) (c c1 : Blk), (c = b2 ∨ Under b2 c) → rebase b2 b1 c = c1 → rebase b2 b1 (ext c p) = ext c1 p
  | [], c, c1, _, e => e
  | (i, j) :: r, c, c1, h, e => by
    refine rebase_ext r (.sub c i j) (.sub c1 i j) (.inr h) ?_
    have hne : Blk.sub c i j ≠ b2 := fun q => by
      have : Under b2 (Blk.sub c i j) := h
      rw [q] at this
      exact not_under_self b2 this
    simp only [rebase]
    rw [if_neg hne, e]

open Classical in
/-- within b2 as within b1 -/
noncomputable def moveL (b2 b1 : Blk) (ρin ρout : Loc) : Loc := fun b' => if Under b2 b' then ρin (rebase b2 b1 b') else ρout b'
theorem moveL_off (b2 b1 : Blk) (ρin ρout : Loc) : Off b2 ρout (moveL b2 b1 ρin ρout) := fun b' h => by simp [moveL, h]
theorem moveL_same {b2 b1 : Blk} {ρin ρout : Loc} (h : ρout b2 = ρin b1) : SameUnder ρin (moveL b2 b1 ρin ρout) b1 b2 := by
  intro p
  rcases ext_under b2 p b2 (.inl rfl) with ⟨q1, rfl⟩ | q
  · simp only [ext]
    rw [moveL_off b2 b1 ρin ρout b2 (not_under_self b2), h]
  · simp only [moveL, if_pos q]
    rw [rebase_ext p b2 b1 (.inl rfl) (rebase_self _ _)]

/-- an entry under another name -/
theorem HoldsE.ren {S : Seat} {ρ ρ' : Loc} {N N' : Nat} {w : World} {rw : Bool} {c : Cont} {b1 b2 : Blk} {F : Foot} (hok : ContOk S c) (h : HoldsE ρ N w rw c b1 F) (ha : Agree N ρ ρ') (hN : N ≤ N') (h12 : ρ' b2 = ρ b1) (hro : rw = false → SameUnder ρ ρ' b1 b2) (hrt : rw = true → b1.root ≠ none ∧ b2.root ≠ none) : HoldsE ρ' N' w rw c b2 F := by
  cases c with
  | raw vs =>
    refine ⟨?_, fun k c q => h.2 k c (h12 ▸ q)⟩
    have hl := h.1
    unfold Lies at hl ⊢
    rw [h12]
    split at hl
    · exact hl
    · obtain ⟨arr, T, fz, h1, h2, h3, h4, h5, h6⟩ := hl
      exact ⟨arr, T, fz, h1, h2, h3, h4, h5.agree ha h6, h6.mono hN⟩
  | arr E xs =>
    refine ⟨?_, fun k c q => h.2 k c (h12 ▸ q)⟩
    have hl := h.1
    unfold Lies at hl ⊢
    rw [h12]
    split at hl
    · exact hl
    · obtain ⟨arr, T, fz, h1, h2, h3, h4⟩ := hl
      exact ⟨arr, T, fz, h1, h2, h3, ElemsLie.agree h4 ha hN⟩
  | nest m d g s f xs o =>
    cases rw with
    | false => exact ⟨h.1, Holds.ren (fun b hb => ha b (hb.mono (Nat.zero_le _))) hok (fun _ q => by cases q) (hro rfl) h.2⟩
    | true =>
      obtain ⟨⟨ρ1, h1, h2⟩, h3⟩ := h
      have he : ρ' b2 = ρ1 b1 := by rw [h12, h1 b1 (not_under_self b1)]
      have h0 : Agree 0 ρ1 (moveL b2 b1 ρ1 ρ') := fun b hb => by
        have hr : b.root = none := by cases h : b.root with | none => rfl | some n => exact absurd (hb n h) (by omega)
        rw [moveL_off b2 b1 ρ1 ρ' b fun q => (hrt rfl).2 (by rw [← q.root]; exact hr), ha b (hb.mono (Nat.zero_le _)), h1 b fun q => (hrt rfl).1 (by rw [← q.root]; exact hr)]
      refine ⟨⟨moveL b2 b1 ρ1 ρ', moveL_off _ _ _ _, Holds.ren h0 hok (fun _ q => by cases q) (moveL_same he) h2⟩, ?_⟩
      unfold OpenLie at h3 ⊢
      split at h3
      · trivial
      · obtain ⟨g1, g2, g3, g4, k, z, arr, T, fz, g5, g6, g7⟩ := h3
        exact ⟨g1, g2, g3, g4.mono hN, k, z, arr, T, fz, by rw [h12]; exact g5, g6, g7.agree ha g4⟩
end Go.Vm

namespace Go.Vm
open Go.RowKit

section
variable (S : Seat)

/-- a call: how it ends, and how memory has turned -/
@[irreducible] def CallA (f : Nat) (args : List AV) (H : Heap) (K : AV → Heap → Prop) : Prop :=
  ∀ (ρ : Lay) (w : World) (rs : List Value), HRel S ρ H w → VRels ρ args rs → AV.lts H.next args →
    Calls S.P f rs.toArray w fun e w' => ∃ v r H', ∃ ρ' : Lay, e = .returned r ∧ K v H' ∧ VRel ρ' v r ∧ v.lt H'.next ∧ After S ρ H w ρ' H' w'

theorem CallA.mono {S : Seat} {f : Nat} {args : List AV} {H : Heap} {K K' : AV → Heap → Prop} (h : CallA S f args H K) (hk : ∀ v H', K v H' → K' v H') : CallA S f args H K' := by
  unfold CallA at h ⊢
  exact fun ρ w rs h1 h2 h3 => (h ρ w rs h1 h2 h3).mono fun _ _ ⟨v, r, H', ρ', e, k, rest⟩ => ⟨v, r, H', ρ', e, hk _ _ k, rest⟩

def storeA (T : TypeId) (a x : AV) (H : Heap) (K : AV → Heap → Prop) : Prop :=
  match a with
  | .ptr b m i j => match getE H.ents b with
    | some ⟨_, true, c⟩ => cellsK x fun cs => match Nat.beq cs.length (szA S T), Nat.ble 1 cs.length, flatL cs with
      | true, true, true => match c with
        | .raw vs => match i with
          | none => match Nat.ble (j + cs.length) vs.length with
            | true => setH H b (.raw (putL vs j cs)) fun H => K .undef H
            | false => False
          | some (.ofNat n) => match Nat.ble (n * m + j + cs.length) vs.length with
            | true => setH H b (.raw (putL vs (n * m + j) cs)) fun H => K .undef H
            | false => False
          | _ => False
        | .arr E xs => match i with
          | none => 0 < xs.length ∧ match E.put (xs.getD 0 E.d) j cs with
            | some y => setH H b (.arr E (xs.set 0 y)) fun H => K .undef H
            | none => False
          | some i => match Nat.beq m E.m with
            | true => (0 ≤ i ∧ i < xs.length) ∧ match E.put (xs.getD i.toNat E.d) j cs with
              | some y => setH H b (.arr E (xs.set i.toNat y)) fun H => K .undef H
              | none => False
            | false => False
        | .nest m' d g s f xs o => match i with
          | none => False
          | some i => match Nat.beq m m' with
            | false => False
            | true => match o with
              | some p => match p with
                | (i0, cs0) => i = i0 ∧ match Nat.ble (j + cs.length) cs0.length with
                  | true => setH H b (.nest m' d g s f xs (some (i, putL cs0 j cs))) fun H => K .undef H
                  | false => False
              | none => match j with
                | 0 => match Nat.beq cs.length m with
                  | true => (0 ≤ i ∧ i < xs.length) ∧ setH H b (.nest m' d g s f xs (some (i, cs))) fun H => K .undef H
                  | false => False
                | _ => False
      | _, _, _ => False
    | _ => False
  | _ => False
end

section
variable {S : Seat} {ρ ρ' : Lay} {H : Heap} {w w' : World} {N N' : Nat}

/-- one cell after the other is written -/
theorem store_run (P : Program) (g o : Nat) (T : TypeId) (fz : Nat × Nat) : ∀ (vs : List Value) (i : Nat) (arr : Array Value) (w : World), w.heap[g]? = some (.cells arr T fz) → o + i + vs.length ≤ arr.size →
    (∀ x, o + i ≤ x → x < o + i + vs.length → ¬(fz.1 ≤ x ∧ x < fz.2)) → (∀ v ∈ vs, v.oneCell' = true) →
    ∃ w' arr', (storeCells ⟨g, o, none⟩ vs i).run P w = .ok () w' ∧ w'.heap[g]? = some (.cells arr' T fz) ∧ arr'.toList = arr.toList.take (o + i) ++ (vs ++ arr.toList.drop (o + i + vs.length)) ∧
      (∀ k, k ≠ g → w'.heap[k]? = w.heap[k]?) ∧ w'.heap.size = w.heap.size ∧ w'.os = w.os ∧ w'.tape = w.tape ∧ w'.output = w.output
  | [], i, arr, w, h, hl, hf, h1 => ⟨w, arr, rfl, h, by simp, fun _ _ => rfl, rfl, rfl, rfl, rfl⟩
  | v :: vs, i, arr, w, h, hl, hf, h1 => by
    simp only [List.length_cons] at hl
    have ha : (Addr.add ⟨g, o, none⟩ i) = ⟨g, o + i, none⟩ := by
      simp only [Addr.add]; split
      · rename_i q; simp [q]
      · rfl
    have hcell : w.cell? ⟨g, o + i, none⟩ = some arr[o + i] := by
      simp only [World.cell?, h]
      simp
    have hfr : w.frozen? ⟨g, o + i, none⟩ = false := by
      simp only [World.frozen?, h]
      have := hf (o + i) (by omega) (by simp)
      simpa using this
    have hs : (w.setCell ⟨g, o + i, none⟩ v).heap[g]? = some (.cells (arr.setIfInBounds (o + i) v) T fz) := by
      simp only [World.setCell, Array.getElem?_modify, h]
      simp
    obtain ⟨w', arr', r1, r2, r3, r4, r5, r6, r7, r8⟩ := store_run P g o T fz vs (i + 1) _ _ hs (by simp; omega) (fun x q1 q2 => hf x (by omega) (by simp only [List.length_cons]; omega)) fun u hu => h1 u (List.mem_cons_of_mem _ hu)
    refine ⟨w', arr', ?_, r2, ?_, ?_, ?_, r6, r7, r8⟩
    · simp only [storeCells, Sem.run_bind, ha, run_store P w _ v .plain (h1 v List.mem_cons_self), hcell, hfr]
      simpa using r1
    · rw [r3, Array.toList_setIfInBounds, show o + (i + 1) = (o + i) + 1 by omega, List.take_succ_eq_append_getElem (by simp; omega), List.take_set_of_le (by omega), List.getElem_set_self, List.drop_set_of_lt (by omega)]
      simp [List.length_cons, show o + i + 1 + vs.length = o + i + (vs.length + 1) by omega]
    · intro k hk
      rw [r4 k hk]
      simp only [World.setCell, Array.getElem?_modify]
      rw [if_neg (Ne.symm hk)]
    · rw [r5]; simp [World.setCell]

theorem flatL_one {ρ : Loc} : ∀ {cs : List AV} {rs : List Value}, flatL cs = true → VRels ρ cs rs → ∀ v ∈ rs, v.oneCell' = true
  | [], rs, _, hr, v, hv => by rw [hr] at hv; simp at hv
  | a :: cs, rs, h, hr, v, hv => by
    obtain ⟨r, rs', rfl, h1, h2⟩ := hr
    simp only [flatL] at h
    split at h
    · rename_i hf
      simp only [List.mem_cons] at hv
      rcases hv with rfl | hv
      · cases a with
        | undef => simp [flatV] at hf
        | agg l => simp [flatV] at hf
        | tup l => simp [flatV] at hf
        | prop p => obtain ⟨b, e, _⟩ := h1; rw [e]; rfl
        | str s => obtain ⟨b, e, _⟩ := h1; rw [e]; rfl
        | ptr b m i j => obtain ⟨k, z, _, _, e⟩ := h1; rw [e]; rfl
        | nils => obtain ⟨a, e⟩ := h1; rw [e]; rfl
        | sl b m i n => rcases h1 with ⟨_, _, _, _, e⟩ | ⟨k, z, cap, off, _, _, _, _, _, _, _, e⟩ <;> (rw [e]; rfl)
        | fn f c => obtain ⟨cs, e, _⟩ := h1; rw [e]; rfl
        | tt => rw [show v = _ from h1]; rfl
        | ff => rw [show v = _ from h1]; rfl
        | int k n => rw [show v = _ from h1]; rfl
        | nilp => rw [show v = _ from h1]; rfl
        | nilf => rw [show v = _ from h1]; rfl
        | niface => rw [show v = _ from h1]; rfl
      · exact flatL_one h h2 v hv
    · simp at h

/-- what is known behind an operation that writes -/
def EffOp (S : Seat) (ρ : Lay) (H : Heap) (w : World) (evr : Operand → Value) (o : Oper) (K : AV → Heap → Prop) : Prop :=
  ∃ v r H', ∃ ρ' : Lay, ∃ w', (execOp evr o).run S.P w = .ok r w' ∧ K v H' ∧ (∃ x, r = .value x ∧ VRel ρ' v x ∨ r = .skip ∧ v = .undef) ∧ v.lt H'.next ∧ After S ρ H w ρ' H' w'

theorem elems_set {ρ : Loc} {arr : Array Value} {α : Type} {E : Enc α} {xs : List α} {arr' : Array Value} {T : TypeId} {i j : Nat} {cs : List AV} {rs : List Value} {y : α} (hE : EncOk S.P T E)
    (h : CellsLie ρ N arr (.loc 0) (.arr E xs)) (hi : i < xs.length) (hp : E.put (xs.getD i E.d) j cs = some y) (hr : VRels ρ cs rs)
    (ha : arr'.toList = arr.toList.take (i * E.m + j) ++ (rs ++ arr.toList.drop (i * E.m + j + rs.length))) (hs : arr'.size = arr.size) (b : Blk) : CellsLie ρ N arr' b (.arr E (xs.set i y)) := by
  obtain ⟨h1, h2⟩ := h
  obtain ⟨p1, p2⟩ := hE.put _ _ _ _ hp
  have hrl := hr.length
  refine ⟨by rw [List.length_set, hs]; exact h1, fun t ht => ⟨?_, hE.plain _ _⟩⟩
  rw [List.length_set] at ht
  show VRels ρ (E.cells ((xs.set i y).getD t E.d)) _
  have hm : i * E.m + E.m ≤ arr.size := by
    have : (i + 1) * E.m ≤ xs.length * E.m := Nat.mul_le_mul_right _ (by omega)
    rw [Nat.add_mul, Nat.one_mul] at this; omega
  by_cases hti : t = i
  · subst hti
    have hg : (xs.set t y).getD t E.d = y := by simp [List.getD_eq_getElem?_getD, hi]
    rw [hg]
    have := p2 ρ rs _ (h2 t hi).1 hr
    have e : (arr'.toList.drop (t * E.m)).take E.m = ((arr.toList.drop (t * E.m)).take E.m).take j ++ (rs ++ ((arr.toList.drop (t * E.m)).take E.m).drop (j + rs.length)) := by
      rw [ha]
      have l1 : (arr.toList.take (t * E.m + j)).length = t * E.m + j := by simp; omega
      rw [List.drop_append_of_le_length (by omega), List.drop_take, Nat.add_sub_cancel_left, List.take_append, List.take_take, List.length_take, List.length_drop, Array.length_toList, List.take_append]
      rw [Nat.min_eq_right (by omega), List.take_take, Nat.min_eq_left (by omega), Nat.min_eq_left (by omega)]
      congr 1
      rw [List.take_of_length_le (by omega)]
      congr 1
      rw [List.drop_take, List.drop_drop]
      congr 1
      · omega
      · congr 1; omega
    rw [e]; exact this
  · have hg : (xs.set i y).getD t E.d = xs.getD t E.d := by simp [List.getD_eq_getElem?_getD, List.getElem?_set_ne (Ne.symm hti)]
    rw [hg]
    have e : (arr'.toList.drop (t * E.m)).take E.m = (arr.toList.drop (t * E.m)).take E.m := by
      have tm : t * E.m + E.m ≤ arr.size := by
        have : (t + 1) * E.m ≤ xs.length * E.m := Nat.mul_le_mul_right _ (by omega)
        rw [Nat.add_mul, Nat.one_mul] at this; omega
      apply List.ext_getElem?
      intro q
      simp only [List.getElem?_take, List.getElem?_drop]
      split
      · rename_i hq
        rw [ha]
        rcases Nat.lt_or_ge t i with hlt | hge
        · have : (t + 1) * E.m ≤ i * E.m := Nat.mul_le_mul_right _ (by omega)
          rw [Nat.add_mul, Nat.one_mul] at this
          rw [List.getElem?_append_left (by simp; omega), List.getElem?_take, if_pos (by omega)]
        · have : (i + 1) * E.m ≤ t * E.m := Nat.mul_le_mul_right _ (by omega)
          rw [Nat.add_mul, Nat.one_mul] at this
          rw [List.getElem?_append_right (by simp; omega), List.getElem?_append_right (by simp; omega), List.getElem?_drop]
          congr 1
          simp; omega
      · rfl
    rw [e]; exact (h2 t ht).1

theorem take_splice {α : Type} (L R : List α) {p n : Nat} (h : p + R.length ≤ n) (hn : n ≤ L.length) :
    (L.take p ++ (R ++ L.drop (p + R.length))).take n = (L.take n).take p ++ (R ++ (L.take n).drop (p + R.length)) := by
  have h1 : (L.take p).length = p := by simp; omega
  rw [List.take_append, h1, List.take_of_length_le (show (L.take p).length ≤ n by omega), List.take_append, List.take_of_length_le (show R.length ≤ n - p by omega), List.take_take, Nat.min_eq_left (by omega), List.drop_take, Nat.sub_sub]


/-- cells of the range of an element that was not written -/
theorem splice_apart {L news : List Value} {p i m : Nat} (hp : p + news.length ≤ L.length) (h : p + news.length ≤ i * m ∨ i * m + m ≤ p) : ((L.take p ++ (news ++ L.drop (p + news.length))).drop (i * m)).take m = (L.drop (i * m)).take m := by
  apply List.ext_getElem?
  intro q
  simp only [List.getElem?_take, List.getElem?_drop]
  split
  · rename_i hq
    have l1 : (L.take p).length = p := by simp; omega
    rcases h with h | h
    · rw [List.getElem?_append_right (by omega), List.getElem?_append_right (by omega), List.getElem?_drop, l1]
      congr 1; omega
    · rw [List.getElem?_append_left (by omega), List.getElem?_take, if_pos (by omega)]
  · rfl
theorem splice_in {L news : List Value} {j i m : Nat} (hj : j + news.length ≤ m) (hm : i * m + m ≤ L.length) : ((L.take (i * m + j) ++ (news ++ L.drop (i * m + j + news.length))).drop (i * m)).take m = ((L.drop (i * m)).take m).take j ++ (news ++ ((L.drop (i * m)).take m).drop (j + news.length)) := by
  have l1 : (L.take (i * m + j)).length = i * m + j := by simp; omega
  rw [List.drop_append_of_le_length (by omega), List.drop_take, Nat.add_sub_cancel_left]
  have h2 : ((L.drop (i * m)).take j).length = j := by simp; omega
  rw [List.take_append, h2, List.take_of_length_le (show ((L.drop (i * m)).take j).length ≤ m by omega), List.take_append, List.take_of_length_le (show news.length ≤ m - j by omega), List.take_take, Nat.min_eq_left (by omega)]
  congr 2
  rw [List.drop_take, List.drop_drop, Nat.sub_sub]
  congr 2; omega

/-- an element is written, and stands open -/
theorem nest_write {α : Type} {m : Nat} {d : α} {g : (Nat → Blk) → α → List AV} {s : List Nat} {f : α → Nat → Cont} {xs : List α} {o : Option (Int × List AV)} {b : Blk} {F : Foot} {k : Nat} {z : Nat × Nat} {ρ : Loc}
    (h : HoldsE ρ N w true (.nest m d g s f xs o) b F) (hok : ContOk S (.nest m d g s f xs o)) (hlt : b.lt N) (hb : ρ b = some (k, z)) {arr arr' : Array Value} {T : TypeId} {fz fz' : Nat × Nat} (h0 : w.heap[k]? = some (.cells arr T fz)) (h1 : w'.heap[k]? = some (.cells arr' T fz'))
    (hsz : arr'.size = arr.size) (hf : FzOk fz' arr') {P : Foot} (hP : ∀ k' c, ¬ P k' c → regF (ρ b) k' c) (hw : KeepF P w w') {i j : Nat} (hi : i ≤ xs.length) {news : List Value} (hj : j + news.length ≤ m) (hfit : i * m + m ≤ z.2)
    (hs : (own arr' z).toList = (own arr z).toList.take (i * m + j) ++ (news ++ (own arr z).toList.drop (i * m + j + news.length))) {cs : List AV} (hcl : cs.length = m) (hcs : VRels ρ cs (((own arr' z).toList.drop (i * m)).take m)) (hcn : AV.lts N cs)
    (hlive : ∀ i', i' < xs.length → liveP (some ((i : Int), cs)) i' → liveP o i') (htot : totalN o xs.length * m ≤ z.2) :
    HoldsE ρ N w' true (.nest m d g s f xs (some ((i : Int), cs))) b F := by
  obtain ⟨⟨ρ1, ho, hh⟩, _⟩ := h
  obtain ⟨⟨hl, hreg⟩, Fs, g1, g2, g3⟩ := hh
  have hself : ρ1 b = ρ b := ho b (not_under_self b)
  have hb1 : ρ1 b = some (k, z) := hself.trans hb
  obtain ⟨g4, g5⟩ := g3 rfl
  have hl0 := hl
  simp only [Lies, hb1] at hl
  obtain ⟨arr2, T2, fz2, q1, q2, q3, q4, q5⟩ := hl
  rw [h0] at q1
  simp at q1
  obtain ⟨rfl, rfl, rfl⟩ := q1
  have hown := own_size (arr := arr) (z := z) q2
  have hown' := own_size (arr := arr') (z := z) (by omega)
  refine ⟨⟨ρ1, ho, ⟨?_, hreg⟩, Fs, fun i' p1 p2 j' p3 => ?_, fun i' p1 p2 j' p3 => g2 i' p1 (hlive i' p1 p2) j' p3, fun _ => ⟨fun i' p1 p2 j' p3 => g4 i' p1 (hlive i' p1 p2) j' p3, fun i' p1 p2 j' p3 i2 r1 r2 j2 r3 => g5 i' p1 (hlive i' p1 p2) j' p3 i2 r1 (hlive i2 r1 r2) j2 r3⟩⟩, ?_⟩
  · simp only [Lies, hb1]
    refine ⟨arr', T, fz', h1, by omega, fun _ => hf, ?_, fun i' p1 p2 => ?_⟩
    · simp only [totalN, Int.toNat_natCast]
      have : max xs.length (i + 1) * m ≤ z.2 := by
        rcases Nat.le_total xs.length (i + 1) with q | q
        · rw [Nat.max_eq_right q, Nat.add_mul, Nat.one_mul]; exact hfit
        · rw [Nat.max_eq_left q]
          refine Nat.le_trans (Nat.mul_le_mul_right _ ?_) htot
          unfold totalN; split <;> omega
      omega
    · have := q5 i' p1 (hlive i' p1 p2)
      have e : (((own arr' z).toList.drop (i' * m)).take m) = (((own arr z).toList.drop (i' * m)).take m) := by
        rw [hs]
        have hll : (own arr z).toList.length = z.2 := by simp [hown]
        refine splice_apart (by omega) ?_
        have p2 : (i' : Int) ≠ i := p2
        rcases Nat.lt_or_ge i' i with q | q
        · right
          have : (i' + 1) * m ≤ i * m := Nat.mul_le_mul_right _ (by omega)
          rw [Nat.add_mul, Nat.one_mul] at this; omega
        · left
          have : (i + 1) * m ≤ i' * m := Nat.mul_le_mul_right _ (by omega)
          rw [Nat.add_mul, Nat.one_mul] at this; omega
      rw [e]; exact this
  · exact Holds.turn (hok.2 _ _).1 (g1 i' p1 (hlive i' p1 p2) j' p3) hlt.sub (.refl _ _) (Nat.le_refl _) (hw.mono fun k' c' p => Classical.byContradiction fun q => g4 i' p1 (hlive i' p1 p2) j' p3 k' c' (hself ▸ hP k' c' q) p)
  · exact ⟨by omega, by simp only; omega, hcl, hcn, k, z, arr', T, fz', hb, h1, by simpa using hcs⟩

theorem store_sound {T : TypeId} {a x : Operand} {o : Oper} {ev : Operand → AV} {evr : Operand → Value} {K : AV → Heap → Prop} (ho : o.op = .store T a x) (hH : HRel S ρ H w) (hev : ∀ x, VRel ρ (ev x) (evr x)) (hlt : ∀ x, (ev x).lt H.next)
    (h : storeA S T (ev a) (ev x) H K) : EffOp S ρ H w evr o K := by
  unfold storeA at h
  have ha := hev a
  split at h
  · rename_i b m i j e
    rw [e] at ha
    obtain ⟨k, z, hb, hi, er⟩ := ha
    split at h
    · rename_i b' c hg
      obtain ⟨hmem, hkey⟩ := getE_mem hg
      have hkey := hkey.symm
      simp only at hkey
      subst hkey
      obtain ⟨cs, h', hr, hl⟩ := cells_rel h (hev x) (hlt x)
      clear h
      have h := h'
      clear h'
      split at h
      · rename_i hsz hpos hflat
        have hsz := Nat.eq_of_beq_eq_true hsz
        have hpos := Nat.le_of_ble_eq_true hpos
        have hone := flatL_one hflat hr
        have hrl := hr.length
        have hholds := hH.holds _ hmem
        simp only at hholds
        obtain ⟨arr0, TT, fz, g1, g2, g3⟩ := hholds.block hb
        have g3 := g3 rfl
        have hsz2 := own_size g2
        have hrun0 : ∀ w, (execOp evr o).run S.P w = ((storeVar T ⟨k, z.1 + ((i.getD 0).toNat * m + j), none⟩ (evr x)).run S.P w).andThen fun _ w' => .ok .skip w' := by
          intro w
          obtain ⟨dst, op, ty, pos, after, g⟩ := o
          simp only at ho
          subst ho
          simp only [execOp, Instr.storeAt, Instr.sureAddr, er, Sem.run_bind, Sem.run_pure, Result.andThen_ok]
        have hreg := hholds.reg.2
        -- the store itself
        have key : ∀ (c' : Cont), (i.getD 0).toNat * m + j + cs.length ≤ z.2 → ContOk S c' → K .undef ⟨setE H.ents b c', H.next⟩ →
            (∀ (w' : World) (arr0' : Array Value), w'.heap[k]? = some (.cells arr0' TT fz) → arr0'.size = arr0.size → (own arr0' z).toList = (own arr0 z).toList.take ((i.getD 0).toNat * m + j) ++ ((evr x).cells.toList ++ (own arr0 z).toList.drop ((i.getD 0).toNat * m + j + (evr x).cells.toList.length)) →
              KeepF (fun k' c => ¬ (k' = k ∧ inZ z c)) w w' → HoldsE ρ H.next w' true c' b (ρ.foot b)) →
            EffOp S ρ H w evr o K := by
          intro c' hle hok hK hc'
          obtain ⟨w', arr0', r1, r2, r3, r4, r5, r6, r7, r8⟩ := store_run S.P k (z.1 + ((i.getD 0).toNat * m + j)) TT fz (evr x).cells.toList 0 arr0 w g1 (by rw [hrl]; omega) (fun y q1 q2 => by unfold FzOk at g3; rw [hrl] at q2; omega) hone
          simp only [Nat.add_zero] at r3
          have hsize0 : arr0'.size = arr0.size := by
            have := congrArg List.length r3
            simp only [List.length_append, List.length_take, List.length_drop, Array.length_toList] at this
            rw [Array.length_toList] at hrl
            omega
          have r3' := own_splice (z := z) (by rw [hrl]; omega) g2 r3
          have hkept : Kept (fun k' c => ¬ (k' = k ∧ inZ z c)) w w' := Kept.one g1 r2 hsize0 (fun _ => by unfold FzOk at g3 ⊢; rw [hsize0]; exact g3) (by omega) (fun c hc => by
            have hcz : c < z.1 + ((i.getD 0).toNat * m + j) ∨ z.1 + ((i.getD 0).toNat * m + j) + (evr x).cells.toList.length ≤ c := by
              unfold inZ at hc; rw [hrl]; omega
            rw [← Array.getElem?_toList, ← Array.getElem?_toList, r3]
            have l1 : (arr0.toList.take (z.1 + ((i.getD 0).toNat * m + j))).length = z.1 + ((i.getD 0).toNat * m + j) := by simp; omega
            rcases hcz with q | q
            · rw [List.getElem?_append_left (by omega), List.getElem?_take, if_pos q]
            · rw [List.getElem?_append_right (by omega), List.getElem?_append_right (by omega), List.getElem?_drop, l1]
              congr 1; omega) r4
          have hout : ∀ k' c, ¬ (fun k' c => ¬ (k' = k ∧ inZ z c)) k' c → ρ.foot b k' c := fun k' c q => by
            have q := Classical.not_not.1 q
            exact hreg k' c ⟨z, by rw [q.1]; exact hb, q.2⟩
          refine ⟨.undef, .skip, _, ρ, w', ?_, hK, ⟨.nilIface, .inr ⟨rfl, rfl⟩⟩, trivial, hH.update hg rfl hok hout hkept (hc' w' arr0' r2 hsize0 r3' hkept.cells) (by omega) r6 r7 r8⟩
          · rw [hrun0]
            have hcs : (evr x).cells.size = szA S T := by rw [← hsz, ← hrl]; simp
            have hsr := run_size (S := S) (T := T) (by omega) w
            simp only [storeVar, Sem.run_bind, hsr, Result.andThen_ok, hcs]
            rw [if_neg (by simp)]
            simp only [Sem.run_bind, Sem.run_pure, Result.andThen_ok, r1]
        have rawcase : ∀ vs : List AV, c = .raw vs → (i.getD 0).toNat * m + j + cs.length ≤ vs.length → K .undef ⟨setE H.ents b (.raw (putL vs ((i.getD 0).toNat * m + j) cs)), H.next⟩ → EffOp S ρ H w evr o K := by
          rintro vs rfl hle hK
          have hll := hholds.raw
          have hlie := hll.1
          simp only [Lies, hb] at hlie
          obtain ⟨arr1, T1, fz1, e1, e2, e3, q1, q2, q3⟩ := hlie
          rw [g1] at e1
          simp at e1
          obtain ⟨rfl, rfl, rfl⟩ := e1
          refine key (.raw (putL vs ((i.getD 0).toNat * m + j) cs)) (by omega) trivial hK fun w' arr' r2 e2 e1 hk => ⟨?_, hll.2⟩
          have hpl : (putL vs ((i.getD 0).toNat * m + j) cs).length = vs.length := by simp [putL]; omega
          simp only [Lies, hb]
          refine ⟨arr', _, _, r2, by omega, fun _ => by unfold FzOk at g3 ⊢; rw [e2]; exact g3, by rw [hpl, own_size (by omega)]; omega, ?_, lts_append (lts_take _ q3) (lts_append hl (lts_drop _ q3))⟩
          have := putL_rel (off := (i.getD 0).toNat * m + j) q2 hr
          rw [hpl, e1]
          have e3 := take_splice (own arr0 z).toList (evr x).cells.toList (p := (i.getD 0).toNat * m + j) (n := vs.length) (by rw [hrl]; omega) (by simp; omega)
          rw [e3]; exact this
        have arrcase : ∀ {α : Type} (E : Enc α) (xs : List α) (y : α), c = .arr E xs → (i.getD 0).toNat * m = (i.getD 0).toNat * E.m → (i.getD 0).toNat < xs.length → E.put (xs.getD (i.getD 0).toNat E.d) j cs = some y →
            K .undef ⟨setE H.ents b (.arr E (xs.set (i.getD 0).toNat y)), H.next⟩ → EffOp S ρ H w evr o K := by
          rintro α E xs y rfl hm hlt' hput hK
          have hl := hholds.arr
          have hlie := hl.1
          simp only [Lies, hb] at hlie
          obtain ⟨arr1, T1, fz1, e1, e2, e3, g4⟩ := hlie
          rw [g1] at e1
          simp at e1
          obtain ⟨rfl, rfl, rfl⟩ := e1
          obtain ⟨T', hE⟩ := hH.enc _ hmem
          obtain ⟨p1, _⟩ := hE.put _ _ _ _ hput
          have : ((i.getD 0).toNat + 1) * E.m ≤ xs.length * E.m := Nat.mul_le_mul_right _ (by omega)
          rw [Nat.add_mul, Nat.one_mul] at this
          have := g4.1
          refine key (.arr E (xs.set (i.getD 0).toNat y)) (by rw [hm]; omega) ⟨T', hE⟩ hK fun w' arr' r2 e2 e1 hk => ⟨?_, hl.2⟩
          rw [hm] at e1
          simp only [Lies, hb]
          exact ⟨arr', _, _, r2, by omega, fun _ => by unfold FzOk at g3 ⊢; rw [e2]; exact g3, elems_set hE g4 hlt' hput hr e1 (by rw [own_size (by omega), hsz2]) b⟩
        split at h
        · rename_i vs
          split at h
          · split at h
            · rename_i hle
              have h := setH_out h
              exact rawcase vs rfl (by simpa using Nat.le_of_ble_eq_true hle) (by simpa using h)
            · exact h.elim
          · rename_i n
            split at h
            · rename_i hle
              have h := setH_out h
              exact rawcase vs rfl (Nat.le_of_ble_eq_true hle) h
            · exact h.elim
          · exact h.elim
        · rename_i α E xs
          split at h
          · obtain ⟨hp, h⟩ := h
            split at h
            · rename_i y hy
              have h := setH_out h
              exact arrcase E xs y rfl (by simp) (by simpa using hp) hy h
            · exact h.elim
          · rename_i i0
            split at h
            · rename_i hm
              have hm := Nat.eq_of_beq_eq_true hm
              obtain ⟨⟨h0, hp⟩, h⟩ := h
              split at h
              · rename_i y hy
                have h := setH_out h
                exact arrcase E xs y rfl (by rw [hm]) (by simp; omega) hy h
              · exact h.elim
            · exact h.elim
        · rename_i α m' d g s f xs o
          split at h
          · exact h.elim
          · rename_i i0
            split at h
            · exact h.elim
            · rename_i hm
              have hm := Nat.eq_of_beq_eq_true hm
              subst hm
              have hok := hH.enc _ hmem
              have hblt := (hH.key _ hmem).1
              obtain ⟨n, rfl⟩ := Int.eq_ofNat_of_zero_le (show 0 ≤ i0 from hi)
              have hkeyreg : ∀ k' c, ¬ (fun k' c => ¬ (k' = k ∧ inZ z c)) k' c → regF (ρ b) k' c := fun k' c q => by
                have q := Classical.not_not.1 q
                exact ⟨z, by rw [q.1]; exact hb, q.2⟩
              obtain ⟨⟨ρ1, o1, o2⟩, o3⟩ := hholds
              have hb1 : ρ1 b = some (k, z) := by rw [o1 b (not_under_self b)]; exact hb
              have hlie := o2.1.1
              simp only [Lies, hb1] at hlie
              obtain ⟨arr1, T1, fz1, e1, e2, e3, htot, _⟩ := hlie
              rw [g1] at e1
              simp at e1
              obtain ⟨rfl, rfl, rfl⟩ := e1
              rw [hsz2] at htot
              have hholds := hH.holds _ hmem
              split at h
              · rename_i p
                split at h
                rename_i i1 cs0
                obtain ⟨rfl, h⟩ := h
                split at h
                · rename_i hle
                  have hle := Nat.le_of_ble_eq_true hle
                  have h := setH_out h
                  obtain ⟨p1, p2, p3, p4, k', z', arr2, T2, fz2, p5, p6, p7⟩ := o3
                  simp only at p1 p2 p3 p4 p5 p6 p7
                  rw [hb] at p5
                  obtain ⟨rfl, rfl⟩ : k' = k ∧ z' = z := by simpa [eq_comm] using p5
                  rw [g1] at p6
                  simp at p6
                  obtain ⟨rfl, rfl, rfl⟩ := p6
                  simp only [Int.toNat_natCast] at p7
                  have hfit : n * m + m ≤ z'.2 := by
                    have : (n + 1) * m ≤ totalN (some ((n : Int), cs0)) xs.length * m := Nat.mul_le_mul_right _ (by simp only [totalN, Int.toNat_natCast]; omega)
                    rw [Nat.add_mul, Nat.one_mul] at this; omega
                  refine key (.nest m d g s f xs (some ((n : Int), putL cs0 j cs))) (by simp only [Option.getD_some, Int.toNat_natCast]; omega) hok h fun w' arr' r2 e2 e1 hk => ?_
                  simp only [Option.getD_some, Int.toNat_natCast] at e1
                  refine nest_write hholds hok hblt hb g1 r2 e2 (by unfold FzOk at g3 ⊢; rw [e2]; exact g3) hkeyreg hk (i := n) (j := j) (by omega) (by rw [hrl]; omega) hfit e1 (by simp [putL]; omega) ?_ (lts_append (lts_take _ p4) (lts_append hl (lts_drop _ p4))) (fun i' _ q => q) htot
                  rw [e1, splice_in (by rw [hrl]; omega) (by rw [Array.length_toList, hsz2]; exact hfit)]
                  exact putL_rel (off := j) p7 hr
                · exact h.elim
              · split at h
                · split at h
                  · rename_i hcl
                    have hcl := Nat.eq_of_beq_eq_true hcl
                    obtain ⟨⟨_, hlt'⟩, h⟩ := h
                    have h := setH_out h
                    have hfit : n * m + m ≤ z.2 := by
                      have : (n + 1) * m ≤ totalN none xs.length * m := Nat.mul_le_mul_right _ (by simp only [totalN]; omega)
                      rw [Nat.add_mul, Nat.one_mul] at this; omega
                    refine key (.nest m d g s f xs (some ((n : Int), cs))) (by simp only [Option.getD_some, Int.toNat_natCast]; omega) hok h fun w' arr' r2 e2 e1 hk => ?_
                    simp only [Option.getD_some, Int.toNat_natCast] at e1
                    refine nest_write hholds hok hblt hb g1 r2 e2 (by unfold FzOk at g3 ⊢; rw [e2]; exact g3) hkeyreg hk (i := n) (j := 0) (by omega) (by rw [hrl]; omega) hfit e1 hcl ?_ hl (fun i' _ _ => trivial) htot
                    rw [e1, splice_in (by rw [hrl]; omega) (by rw [Array.length_toList, hsz2]; exact hfit)]
                    have e4 : ((((own arr0 z).toList.drop (n * m)).take m).take 0 ++ ((evr x).cells.toList ++ (((own arr0 z).toList.drop (n * m)).take m).drop (0 + (evr x).cells.toList.length))) = (evr x).cells.toList := by
                      rw [List.take_zero, List.nil_append, List.drop_of_length_le (by simp only [List.length_take, List.length_drop, Array.length_toList, hsz2] at *; omega), List.append_nil]
                    rw [e4]; exact hr
                  · exact h.elim
                · exact h.elim
      · exact h.elim
    · exact h.elim
  · exact h.elim
end
end Go.Vm

namespace Go.Vm
open Go.RowKit

section
variable (S : Seat)

/-- what is appended or copied, as elements of a kind -/
def srcA (T : TypeId) {α : Type} (E : Enc α) (x : AV) (H : Heap) (K : List α → Prop) : Prop :=
  match S.P.underlying T with
  | some (.slice _) => elemsA E H.ents x K
  | some .string => match x with
    | .str t => ∃ ys, (E.m = 1 ∧ t.map (fun n => [AV.int .u8 n]) = ys.map E.cells) ∧ K ys
    | _ => False
  | _ => False

/-- what is appended: elements, or so many zero elements -/
def srcZ (U : TypeId) {α : Type} (E : Enc α) (x : AV) (H : Heap) (K : List α → Prop) : Prop :=
  match S.P.underlying U with
  | some (.int _) => match x with
    | .int .i64 n => (0 ≤ n ∧ n ≤ 140737488355328) ∧ K (List.replicate n.toNat E.d)
    | _ => False
  | _ => srcA S U E x H K

def appendK {α : Type} (E : Enc α) (e : TypeId) (xs ys : List α) (H : Heap) (K : AV → Heap → Prop) : Prop :=
  natK (bytesA S e) fun B => (((xs.length + ys.length : Nat) : Int) * (B : Int) ≤ 140737488355328 ∧ ((xs.length + ys.length : Nat) : Int) ≤ 140737488355328) ∧
  pushK H (.arr E (xs ++ ys)) fun n H => natK E.m fun m => K (.sl (.loc n) m none ((xs.length + ys.length : Nat) : Int)) H

def appendNK (e : TypeId) {α : Type} (m : Nat) (d : α) (g : (Nat → Blk) → α → List AV) (s : List Nat) (f : α → Nat → Cont) (xs : List α) (cs : List AV) (H : Heap) (K : AV → Heap → Prop) : Prop :=
  natK (bytesA S e) fun B => (((xs.length + 1 : Nat) : Int) * (B : Int) ≤ 140737488355328 ∧ ((xs.length + 1 : Nat) : Int) ≤ 140737488355328) ∧
  pushK H (.nest m d g s f xs (some ((xs.length : Int), cs))) fun n H => natK m fun m => K (.sl (.loc n) m none ((xs.length + 1 : Nat) : Int)) H

/-- the cells of one element that is appended -/
def oneA (U : TypeId) (m : Nat) (x : AV) (H : Heap) (K : List AV → Prop) : Prop :=
  match S.P.underlying U with
  | some (.slice _) => match x with
    | .sl b m' none n => match getE H.ents b with
      | some ⟨_, _, c⟩ => match c with
        | .raw cs => match Nat.beq cs.length m, Nat.beq m' m, flatL cs with
          | true, true, true => n = 1 ∧ K cs
          | _, _, _ => False
        | _ => False
      | none => False
    | _ => False
  | _ => False

/-- append -/
def appendA (T U : TypeId) (s x : AV) (H : Heap) (K : AV → Heap → Prop) : Prop :=
  match S.P.underlying T with
  | some (.slice e) => match S.hint e with
    | some ⟨_, E⟩ => srcZ S U E x H fun ys => match s with
      | .nils => appendK S E e [] ys H K
      | .sl b m i n => match getE H.ents b with
        | some ⟨_, true, c⟩ => match i with
          | none => ∃ xs, (c = .arr E xs ∧ m = E.m ∧ n = xs.length) ∧ match H with
            | ⟨l0, nx⟩ => delK l0 b fun l => appendK S E e xs ys ⟨l, nx⟩ K
          | some i => ∃ xs, (c = .arr E xs ∧ m = E.m ∧ i = 0 ∧ 0 ≤ n ∧ n ≤ xs.length) ∧ match H with
            | ⟨l0, nx⟩ => delK l0 b fun l => appendK S E e (xs.take n.toNat) ys ⟨l, nx⟩ K
        | _ => False
      | _ => False
    | none => match S.nest e with
      | some ⟨_, m, d, g, sl, f⟩ => oneA S U m x H fun cs => match s with
        | .nils => appendNK S e m d g sl f [] cs H K
        | .sl (.loc nb) m' none n => match getE H.ents (.loc nb) with
          | some ⟨_, true, c⟩ => ∃ xs, (c = .nest m d g sl f xs none ∧ m' = m ∧ n = xs.length) ∧ match H with
            | ⟨l0, nx⟩ => delK l0 (.loc nb) fun l => appendNK S e m d g sl f xs cs ⟨l, nx⟩ K
          | _ => False
        | _ => False
      | none => False
  | _ => False

/-- the first of some elements put over others -/
def over {α : Type} (xs : List α) (i : Nat) (ys : List α) : List α := xs.take i ++ (ys ++ xs.drop (i + ys.length))

/-- copy -/
def copyA (T U : TypeId) (s x : AV) (H : Heap) (K : AV → Heap → Prop) : Prop :=
  match S.P.underlying T with
  | some (.slice e) => match S.hint e with
    | some ⟨_, E⟩ => srcA S U E x H fun ys => match s with
      | .nils => K (.int .i64 0) H
      | .sl b m i n => match getE H.ents b with
        | some ⟨_, true, c⟩ => ∃ xs, (c = .arr E xs ∧ m = E.m) ∧ match i with
          | none => (0 ≤ n ∧ n ≤ xs.length) ∧ setH H b (.arr E (over xs 0 (ys.take n.toNat))) fun H => K (.int .i64 (min (ys.length : Int) n)) H
          | some i => (0 ≤ i ∧ 0 ≤ n ∧ i + n ≤ xs.length) ∧ setH H b (.arr E (over xs i.toNat (ys.take n.toNat))) fun H => K (.int .i64 (min (ys.length : Int) n)) H
        | _ => False
      | _ => False
    | none => False
  | _ => False
end

section
variable {S : Seat} {ρ : Loc} {H : Heap} {w w' : World} {N N' : Nat}

theorem delE_mem : ∀ {l : List Ent} {b : Blk} {e : Ent}, getE l b = some e → l.Pairwise (fun e e' => e.b ≠ e'.b) → ∀ x ∈ delE l b, x ∈ l ∧ x.b ≠ b
  | [], _, _, h, _, x, hx => by simp [getE] at h
  | a :: r, b, e, h, hp, x, hx => by
    unfold getE at h
    unfold delE at hx
    rw [List.pairwise_cons] at hp
    split at h
    · rename_i q
      rw [q] at hx
      have hb := Blk.beq_eq q
      exact ⟨List.mem_cons_of_mem _ hx, fun e' => hp.1 x hx (by rw [hb, e'])⟩
    · rename_i q
      rw [q] at hx
      simp only [List.mem_cons] at hx
      rcases hx with rfl | hx
      · refine ⟨List.mem_cons_self, fun e' => ?_⟩
        obtain ⟨h1, h2⟩ := getE_mem h
        exact hp.1 e h1 (by rw [e', h2])
      · have := delE_mem h hp.2 x hx
        exact ⟨List.mem_cons_of_mem _ this.1, this.2⟩

/-- a content that goes on under another name, in its own block -/
theorem HRel.move {ρ : Lay} (h : HRel S ρ H w) {b : Blk} {e : Ent} {c : Cont} {P : Foot} (he : getE H.ents b = some e) (hrw : e.rw = true)
    (hok : ContOk S c) (hP : ∀ k c, ¬ P k c → ρ.foot b k c) (hw : Kept P w w') (hs : w.heap.size ≤ w'.heap.size) (hh : HoldsE (ρ.set H.next (ρ b) (ρ.foot b)) (H.next + 1) w' true c (.loc H.next) (ρ.foot b))
    (ho : w'.os = w.os) (ht : w'.tape = w.tape) (hout : w'.output = w.output) : After S ρ H w (ρ.set H.next (ρ b) (ρ.foot b)) ⟨⟨.loc H.next, true, c⟩ :: delE H.ents b, H.next + 1⟩ w' := by
  obtain ⟨hm, hkey⟩ := getE_mem he
  have ha := Lay.set_agree ρ H.next (ρ b) (ρ.foot b)
  have hmem := delE_mem he h.keys
  refine ⟨by simp, ha, h.add (delE_sub _ _) hok hs hh (fun x hx => ?_) (fun x hx _ => ?_) (fun k c q => ?_), hs, hw.mono ?_, ?_, ho, ht, hout⟩
  · obtain ⟨q1, q2⟩ := hmem x hx
    exact h.rest hm hkey hrw hP hw ha (by simp) q1 q2
  · obtain ⟨q1, q2⟩ := hmem x hx
    have := h.sep e hm x q1 (.inl hrw) (by rw [hkey]; exact Ne.symm q2)
    rw [hkey] at this
    exact this
  · exact Nat.lt_of_lt_of_le (h.low e hm k c (by rw [hkey]; exact q)) hs
  · intro k c' q
    exact Classical.byContradiction fun p => q ⟨e, hm, hrw, by rw [hkey]; exact hP k c' p⟩
  · rintro k c' ⟨x, hx, hxr, q⟩
    right
    rcases List.mem_cons.1 hx with rfl | hx
    · simp only at q; rw [Lay.set_foot] at q
      exact ⟨e, hm, hrw, by rw [hkey]; exact q⟩
    · obtain ⟨q1, q2⟩ := hmem x hx
      rw [Lay.set_old _ _ _ (h.key x q1).1] at q
      exact ⟨x, q1, hxr, q⟩

/-- a name for nothing -/
theorem HRel.nothing {ρ : Lay} (h : HRel S ρ H w) {c : Cont} (hc : c.empty) (hcl : c.closed) (hok : ContOk S c) : After S ρ H w (ρ.set H.next none fun _ _ => False) ⟨⟨.loc H.next, true, c⟩ :: H.ents, H.next + 1⟩ w := by
  have ha := Lay.set_agree ρ H.next none fun _ _ => False
  refine ⟨by simp, ha, h.add (List.Sublist.refl _) hok (Nat.le_refl _) ((holds_nothing (Lay.set_self _ _ _ _) hc).toE hcl) (fun x hx => ?_) (fun x hx _ k c' q => q.elim) (fun k c' q => q.elim), Nat.le_refl _, .refl _ _, ?_, rfl, rfl, rfl⟩
  · exact (h.holds x hx).turn (h.enc x hx) (h.key x hx).1 ha (by simp) (.refl _ _)
  · rintro k c' ⟨x, hx, hxr, q⟩
    rcases List.mem_cons.1 hx with rfl | hx
    · simp only at q; rw [Lay.set_foot] at q; exact q.elim
    · rw [Lay.set_old _ _ _ (h.key x hx).1] at q
      exact .inr ⟨x, hx, hxr, q⟩

/-- the values of elements, one behind the other -/
def Vals (ρ : Loc) (N : Nat) {α : Type} (E : Enc α) (ys : List α) (rs : List Value) : Prop :=
  rs.length = ys.length * E.m ∧ ∀ t, t < ys.length → VRels ρ (E.cells (ys.getD t E.d)) ((rs.drop (t * E.m)).take E.m)

theorem Vals.take {α : Type} {E : Enc α} {ys : List α} {rs : List Value} (h : Vals ρ N E ys rs) (n : Nat) : Vals ρ N E (ys.take n) (rs.take (n * E.m)) := by
  refine ⟨by rw [List.length_take, List.length_take, h.1, Nat.mul_min_mul_right], fun t ht => ?_⟩
  simp only [List.length_take] at ht
  have e1 : (ys.take n).getD t E.d = ys.getD t E.d := by simp only [List.getD_eq_getElem?_getD, List.getElem?_take]; rw [if_pos (by omega)]
  have e2 : ((rs.take (n * E.m)).drop (t * E.m)).take E.m = (rs.drop (t * E.m)).take E.m := by
    have : (t + 1) * E.m ≤ n * E.m := Nat.mul_le_mul_right _ (by omega)
    rw [Nat.add_mul, Nat.one_mul] at this
    rw [List.drop_take, List.take_take, Nat.min_eq_left (by omega)]
  rw [e1, e2]
  exact h.2 t (by omega)

theorem Vals.one {T : TypeId} {α : Type} {E : Enc α} (hE : EncOk S.P T E) {ys : List α} {rs : List Value} (h : Vals ρ N E ys rs) : ∀ v ∈ rs, v.oneCell' = true := by
  intro v hv
  obtain ⟨i, hi, rfl⟩ := List.getElem_of_mem hv
  have hlt : i / E.m < ys.length := by rw [Nat.div_lt_iff_lt_mul hE.pos, ← h.1]; exact hi
  refine flatL_one (hE.flat _) (h.2 _ hlt) _ ?_
  have hmod := Nat.mod_lt i hE.pos
  have hdiv := Nat.div_add_mod i E.m
  rw [Nat.mul_comm] at hdiv
  refine List.mem_of_getElem? (i := i % E.m) ?_
  rw [List.getElem?_take, if_pos hmod, List.getElem?_drop, hdiv, List.getElem?_eq_getElem hi]

theorem vals_of_at {T : TypeId} {α : Type} {E : Enc α} (hE : EncOk S.P T E) {ys : List α} {a : Option Addr} (h : ElemsAt ρ N w E ys a) :
    ∃ rs, Vals ρ N E ys rs ∧ ∀ (P : Program) (n cap : Nat) (w0 : World), w0.heap = w.heap → n ≤ ys.length → (Builtin.firstCells E.m n (.slice a ys.length cap)).run P w0 = .ok (rs.take (n * E.m)).toArray w0 := by
  cases hy : ys with
  | nil =>
    refine ⟨[], ⟨by simp, fun t ht => by simp at ht⟩, fun P n cap w0 _ hn => ?_⟩
    have hn : n = 0 := by simpa using hn
    subst hn
    cases a with
    | none => simp [Builtin.firstCells]
    | some a => simp [Builtin.firstCells, loadCells, loadCellsFrom]
  | cons y ys' =>
    obtain ⟨k, off, rfl, hc⟩ := h (by rw [hy]; simp)
    rw [← hy]
    refine ⟨(List.range (ys.length * E.m)).map fun q => (w.cell? ⟨k, off + q, none⟩).getD undef, ⟨by simp, fun t ht => ?_⟩, fun P n cap w0 hw hn => ?_⟩
    · obtain ⟨rs, r1, _, r3⟩ := hc t ht
      have hrl := r1.length
      rw [hE.len] at hrl
      have e : ((((List.range (ys.length * E.m)).map fun q => (w.cell? ⟨k, off + q, none⟩).getD undef).drop (t * E.m)).take E.m) = rs := by
        have : (t + 1) * E.m ≤ ys.length * E.m := Nat.mul_le_mul_right _ (by omega)
        rw [Nat.add_mul, Nat.one_mul] at this
        apply List.ext_getElem
        · simp; omega
        · intro i h1 h2
          have := r3 i _ (List.getElem?_eq_getElem h2)
          simp only [List.getElem_take, List.getElem_drop, List.getElem_map, List.getElem_range]
          rw [← Nat.add_assoc, this]; rfl
      rw [e]; exact r1
    · have hcell : ∀ q, q < ys.length * E.m → w0.cell? ⟨k, off + q, none⟩ = some ((w.cell? ⟨k, off + q, none⟩).getD undef) := by
        intro q hq
        have hlt : q / E.m < ys.length := by rw [Nat.div_lt_iff_lt_mul hE.pos]; exact hq
        obtain ⟨rs, r1, _, r3⟩ := hc _ hlt
        have hrl := r1.length
        rw [hE.len] at hrl
        have hmod := Nat.mod_lt q hE.pos
        have hdiv := Nat.div_add_mod q E.m
        rw [Nat.mul_comm] at hdiv
        have := r3 (q % E.m) _ (List.getElem?_eq_getElem (by omega))
        rw [Nat.add_assoc, hdiv] at this
        rw [this]
        have e : w0.cell? ⟨k, off + q, none⟩ = w.cell? ⟨k, off + q, none⟩ := by simp only [World.cell?, hw]
        rw [e, this]; rfl
      have hle : n * E.m ≤ ys.length * E.m := Nat.mul_le_mul_right _ hn
      have := run_loadCells (P := P) w0 ⟨k, off, none⟩ (n * E.m) (fun q => (w.cell? ⟨k, off + q, none⟩).getD undef) (fun j hj => by
        simp only [Addr.add]
        split
        · rename_i q; subst q; simpa using hcell 0 (by omega)
        · exact hcell j (by omega))
      simp only [Builtin.firstCells, this]
      congr 2
      rw [← List.map_take, List.take_range, Nat.min_eq_left hle]

/-- what is appended or copied: its values, and that the machine tells them -/
theorem src_sound {ρ : Lay} {e T : TypeId} {α : Type} {E : Enc α} (hE : EncOk S.P e E) {x : AV} {r : Value} {K : List α → Prop} (hH : HRel S ρ H w) (h : srcA S T E x H K) (hx : VRel ρ x r) :
    ∃ ys rs, K ys ∧ Vals ρ N E ys rs ∧ ((∃ el, S.P.underlying T = some (.slice el)) ∨ S.P.underlying T = some .string) ∧ (∀ w0 : World, (Builtin.lenOf r).run S.P w0 = .ok ys.length w0) ∧ (ys.length ≤ 9223372036854775807) ∧
      ∀ (n : Nat) (w0 : World), w0.heap = w.heap → n ≤ ys.length → (Builtin.firstCells E.m n r).run S.P w0 = .ok (rs.take (n * E.m)).toArray w0 := by
  unfold srcA at h
  split at h
  · rename_i el hT
    obtain ⟨ys, a, cap, hK, er, hle, hcap, hat⟩ := elems_sound hH h hx
    obtain ⟨rs, h1, h2⟩ := vals_of_at (N := H.next) hE hat
    have h1 : Vals ρ N E ys rs := ⟨h1.1, h1.2⟩
    exact ⟨ys, rs, hK, h1, .inl ⟨_, hT⟩, fun w0 => by rw [er]; rfl, by omega, fun n w0 hw hn => by rw [er]; exact h2 S.P n cap w0 hw hn⟩
  · rename_i hT
    split at h
    · rename_i t
      obtain ⟨ys, ⟨hm, hys⟩, hK⟩ := h
      obtain ⟨a, er, rfl, hb⟩ := hx
      have hlen : ys.length = a.size := by have := congrArg List.length hys; simpa [bytesL_length] using this.symm
      have hd : (a.data.map fun b => Value.int .u8 b.toNat).toList = (bytesL a).map (Value.int .u8) := by simp [bytesL, Function.comp_def]
      refine ⟨ys, (bytesL a).map (Value.int .u8), hK, ⟨by simp [hm, hlen, bytesL_length], fun j hj => ?_⟩, .inr hT, fun w0 => by rw [er, hlen]; rfl, by omega, fun n w0 _ hn => ?_⟩
      · have hj' : j < (bytesL a).length := by rw [bytesL_length]; omega
        have e1 : E.cells (ys.getD j E.d) = [.int .u8 ((bytesL a)[j])] := by
          have := congrArg (fun l => l[j]?) hys
          simp only [List.getElem?_map, List.getElem?_eq_getElem hj, List.getElem?_eq_getElem hj', Option.map_some, Option.some.injEq] at this
          rw [List.getD_eq_getElem?_getD, List.getElem?_eq_getElem hj, Option.getD_some, ← this]
        have e2 : ((((bytesL a).map (Value.int .u8)).drop (j * E.m)).take E.m) = [Value.int .u8 ((bytesL a)[j])] := by
          rw [hm, Nat.mul_one, List.drop_eq_getElem_cons (by simpa using hj')]
          simp
        rw [e1, e2]
        exact ⟨_, _, rfl, rfl, rfl⟩
      · rw [er, hm, Nat.mul_one]
        simp only [Builtin.firstCells, Sem.run_pure]
        congr 1
        rw [← Array.toList_inj]
        have e3 : ((a.extract 0 n).data.map fun b => Value.int .u8 b.toNat).toList = (bytesL (a.extract 0 n)).map (Value.int .u8) := by simp [bytesL, Function.comp_def]
        rw [e3, bytesL_extract]
        simp
    · exact h.elim
  · exact h.elim

theorem Vals.lie {T : TypeId} {α : Type} {E : Enc α} (hE : EncOk S.P T E) {ys : List α} {rs rest : List Value} (h : Vals ρ N E ys rs) {arr : Array Value} (ha : arr.toList = rs ++ rest) (b : Blk) : CellsLie ρ N arr b (.arr E ys) := by
  have hl := congrArg List.length ha
  simp only [Array.length_toList, List.length_append, h.1] at hl
  refine ⟨by omega, fun t ht => ⟨?_, hE.plain _ _⟩⟩
  show VRels ρ (E.cells (ys.getD t E.d)) _
  have : (t + 1) * E.m ≤ ys.length * E.m := Nat.mul_le_mul_right _ (by omega)
  rw [Nat.add_mul, Nat.one_mul] at this
  have hr := h.1
  rw [ha, List.drop_append_of_le_length (by omega), List.take_append_of_le_length (by rw [List.length_drop]; omega)]
  exact h.2 t ht

theorem lie_vals {T : TypeId} {α : Type} {E : Enc α} (hE : EncOk S.P T E) {ys : List α} {arr : Array Value} {b : Blk} (h : CellsLie ρ N arr b (.arr E ys)) : Vals ρ N E ys (arr.toList.take (ys.length * E.m)) := by
  obtain ⟨h1, h2⟩ := h
  refine ⟨by simp; omega, fun t ht => ?_⟩
  have : (t + 1) * E.m ≤ ys.length * E.m := Nat.mul_le_mul_right _ (by omega)
  rw [Nat.add_mul, Nat.one_mul] at this
  rw [List.drop_take, List.take_take, Nat.min_eq_left (by omega)]
  exact (h2 t ht).1

theorem Vals.append {T : TypeId} {α : Type} {E : Enc α} (hE : EncOk S.P T E) {xs ys : List α} {rs ss : List Value} (h : Vals ρ N E xs rs) (k : Vals ρ N E ys ss) : Vals ρ N E (xs ++ ys) (rs ++ ss) := by
  refine ⟨by rw [List.length_append, List.length_append, h.1, k.1, Nat.add_mul], fun t ht => ?_⟩
  rw [List.length_append] at ht
  have hr := h.1
  rcases Nat.lt_or_ge t xs.length with q | q
  · have : (t + 1) * E.m ≤ xs.length * E.m := Nat.mul_le_mul_right _ (by omega)
    rw [Nat.add_mul, Nat.one_mul] at this
    rw [List.drop_append_of_le_length (by omega), List.take_append_of_le_length (by rw [List.length_drop]; omega)]
    have e : (xs ++ ys).getD t E.d = xs.getD t E.d := by simp only [List.getD_eq_getElem?_getD, List.getElem?_append_left q]
    rw [e]; exact h.2 t q
  · obtain ⟨u, rfl⟩ : ∃ u, t = xs.length + u := ⟨t - xs.length, by omega⟩
    have e : (xs ++ ys).getD (xs.length + u) E.d = ys.getD u E.d := by simp only [List.getD_eq_getElem?_getD, List.getElem?_append_right (Nat.le_add_right _ _), Nat.add_sub_cancel_left]
    rw [e, Nat.add_mul, ← hr, List.drop_append, List.drop_of_length_le (by omega), List.nil_append, Nat.add_sub_cancel_left]
    exact k.2 u (by omega)
end
end Go.Vm

namespace Go.Vm
open Go.RowKit
section
variable {S : Seat} {ρ ρ' : Lay} {H : Heap} {w w' : World} {N N' : Nat}

theorem info_of {e : TypeId} {α : Type} {E : Enc α} (hE : EncOk S.P e E) : ∃ i z, S.P.info? e = some i ∧ i.size = E.m ∧ i.zero = some z ∧ bytesA S e = i.bytes := by
  obtain ⟨zl, hz, _⟩ := hE.zero
  have hm := hE.m
  cases hi : S.P.info? e with
  | none => rw [hi] at hm; simp at hm
  | some i =>
    rw [hi] at hm hz
    simp at hm hz
    obtain ⟨z, hz, _⟩ := hz
    exact ⟨i, z, rfl, hm, hz, by simp [bytesA, hi]⟩

set_option maxHeartbeats 1000000 in
/-- append into what room there is -/
theorem append_room {T U ty e : TypeId} {i : TypeInfo} {s x : Value} {base : Option Addr} {n cap m : Nat} {news : List Value} (hT : S.P.underlying T = some (.slice e)) (hU : (∃ el, S.P.underlying U = some (.slice el)) ∨ S.P.underlying U = some .string) (hi : S.P.info? e = some i)
    (hs : s = .slice base n cap) (hl : (Builtin.lenOf x).run S.P w = .ok m w) (hf : (Builtin.firstCells i.size m x).run S.P w = .ok news.toArray w) (hroom : n + m ≤ cap) {w'' : World}
    (hst : match base with | none => w'' = w | some a => (storeCells (a.add (n * i.size)) news).run S.P w = .ok () w'') :
    (Builtin.append_ #[T, U] ty #[s, x]).run S.P w = .ok (.slice base (n + m) cap) w'' := by
  subst hs
  have hsz : (sizeOf e).run S.P w = .ok i.size w := by simp [sizeOf, typeInfo, hi]
  rcases hU with ⟨el, hu⟩ | hu
  · cases base with
    | none =>
      simp only at hst
      subst hst
      simp [Builtin.append_, run_und hT, run_und hu, hsz, hl, hroom, hf]
    | some a => simp [Builtin.append_, run_und hT, run_und hu, hsz, hl, hroom, hf, hst]
  · cases base with
    | none =>
      simp only at hst
      subst hst
      simp [Builtin.append_, run_und hT, run_und hu, hsz, hl, hroom, hf]
    | some a => simp [Builtin.append_, run_und hT, run_und hu, hsz, hl, hroom, hf, hst]

set_option maxHeartbeats 1000000 in
/-- append where there is none -/
theorem append_grow {T U ty e : TypeId} {i : TypeInfo} {z : Value} {s x : Value} {base : Option Addr} {n cap m : Nat} {olds news : List Value} (hT : S.P.underlying T = some (.slice e)) (hU : (∃ el, S.P.underlying U = some (.slice el)) ∨ S.P.underlying U = some .string) (hi : S.P.info? e = some i) (hz : i.zero = some z)
    (hs : s = .slice base n cap) (hl : (Builtin.lenOf x).run S.P w = .ok m w) (hf : (Builtin.firstCells i.size m x).run S.P w.drew = .ok news.toArray w.drew) (ho : (Builtin.firstCells i.size n s).run S.P w.drew = .ok olds.toArray w.drew)
    (hroom : cap < n + m) (hle : n ≤ cap) (hb : (n + m) * i.bytes ≤ 140737488355328) (h63 : n + m ≤ 140737488355328) :
    (Builtin.append_ #[T, U] ty #[s, x]).run S.P w =
      .ok (.slice (some ⟨w.heap.size, 0, none⟩) (n + m) (grownCap w (n + m) cap e)) (w.drew.alloc (.cells (olds ++ news ++ (Builtin.zeroCells z.cells (grownCap w (n + m) cap e - (n + m))).toList).toArray e)) := by
  subst hs
  have hsz : (sizeOf e).run S.P w = .ok i.size w := by simp [sizeOf, typeInfo, hi]
  have hroom' : ¬ (n + m ≤ cap) := by omega
  have h63' : ¬ (9223372036854775807 < ((n : Int) + (m : Int))) := by omega
  have h48 := growslice_fits hroom hb
  have h48' : ¬ (281474976710656 < Builtin.nextslicecap (n + m) cap * i.bytes) := by omega
  rcases hU with ⟨el, hu⟩ | hu
  · simp [Builtin.append_, run_und hT, run_und hu, sizeOf, typeInfo, zeroValue, hi, hz, hl, hroom', h63', h48', Question.forced, hf, ho, newRow, grownCap]
    congr 2
    apply Array.ext'
    simp
  · simp [Builtin.append_, run_und hT, run_und hu, sizeOf, typeInfo, zeroValue, hi, hz, hl, hroom', h63', h48', Question.forced, hf, ho, newRow, grownCap]
    congr 2
    apply Array.ext'
    simp

theorem Grew.drew_alloc (w : World) (o : Obj) : Grew w (w.drew.alloc o) o := by
  refine ⟨?_, fun j hj => ?_, ?_, ?_, ?_, ?_⟩
  · simp [World.alloc, World.drew, -World.alloc_eq, -World.drew_eq]
  · simp [World.alloc, World.drew, -World.alloc_eq, -World.drew_eq, Array.getElem?_push]; omega
  · simp [World.alloc, World.drew, -World.alloc_eq, -World.drew_eq]
  · simp [World.alloc, World.drew, -World.alloc_eq, -World.drew_eq]
  · simp [World.alloc, World.drew, -World.alloc_eq, -World.drew_eq]
  · simp [World.alloc, World.drew, -World.alloc_eq, -World.drew_eq]

theorem drew_heap (w : World) : w.drew.heap = w.heap := by simp [World.drew, -World.drew_eq]

/-- how an append ends -/
def AppOp (S : Seat) (ρ : Lay) (H : Heap) (w : World) (x : Sem Value) (K : AV → Heap → Prop) : Prop :=
  ∃ v r H', ∃ ρ' : Lay, ∃ w', x.run S.P w = .ok r w' ∧ K v H' ∧ VRel ρ' v r ∧ v.lt H'.next ∧ After S ρ H w ρ' H' w'

theorem appendK_out {e : TypeId} {α : Type} {E : Enc α} {xs ys : List α} {H : Heap} {K : AV → Heap → Prop} (h : appendK S E e xs ys H K) :
    (((xs.length + ys.length : Nat) : Int) * (bytesA S e : Int) ≤ 140737488355328 ∧ ((xs.length + ys.length : Nat) : Int) ≤ 140737488355328) ∧
    K (.sl (.loc H.next) E.m none ((xs.length + ys.length : Nat) : Int)) ⟨⟨.loc H.next, true, .arr E (xs ++ ys)⟩ :: H.ents, H.next + 1⟩ := by
  have h' := natK_out h
  clear h
  obtain ⟨h1, h⟩ := h'
  have h := pushK_out h
  exact ⟨h1, natK_out h⟩

theorem loc_lt (n : Nat) {m : Nat} {i : Option Int} {l : Int} : (AV.sl (.loc n) m i l).lt (n + 1) := fun k hk => by simp [Blk.root] at hk; omega

theorem moveL_sub {b2 b1 : Blk} {ρin ρout : Loc} (i : Int) (j : Nat) : SameUnder ρin (moveL b2 b1 ρin ρout) (.sub b1 i j) (.sub b2 i j) := by
  intro p
  have hu : Under b2 (ext (.sub b2 i j) p) := by
    rcases ext_under b2 p (.sub b2 i j) (.inr (.inl rfl)) with ⟨q, _⟩ | q
    · exfalso
      have hu : ∀ (p : List (Int × Nat)) (x : Blk), Under b2 x → Under b2 (ext x p) := by
        intro p
        induction p with
        | nil => intro x hx; exact hx
        | cons a p ih => intro x hx; exact ih _ (.inr hx)
      have := hu p (.sub b2 i j) (.inl rfl)
      rw [q] at this
      exact not_under_self b2 this
    · exact q
  simp only [moveL, if_pos hu]
  have hne : Blk.sub b2 i j ≠ b2 := fun q => by
    have : Under b2 (Blk.sub b2 i j) := .inl rfl
    rw [q] at this
    exact not_under_self b2 this
  rw [rebase_ext p (.sub b2 i j) (.sub b1 i j) (.inr (.inl rfl)) (by simp only [rebase]; rw [if_neg hne, rebase_self])]
theorem moveL_zero {b2 b1 : Blk} {ρ ρ1 ρ' : Loc} {n1 n2 : Nat} (h1 : b1.root = some n1) (h2 : b2.root = some n2) (ho : Off b1 ρ ρ1) (ha : Agree 0 ρ ρ') : Agree 0 ρ1 (moveL b2 b1 ρ1 ρ') := fun b hb => by
  have hr : b.root = none := by cases h : b.root with | none => rfl | some n => exact absurd (hb n h) (by omega)
  rw [moveL_off b2 b1 ρ1 ρ' b fun q => (by rw [← q.root, hr] at h2; simp at h2), ha b hb, ho b fun q => (by rw [← q.root, hr] at h1; simp at h1)]

/-- one element more, open, whether there was room or not -/
theorem nest_snoc {α : Type} {m : Nat} {d : α} {g : (Nat → Blk) → α → List AV} {s : List Nat} {f : α → Nat → Cont} {xs : List α} {b b2 : Blk} {F G : Foot} {ρ ρ' : Loc} {k2 : Nat} {z2 : Nat × Nat} {arr2 : Array Value} {T2 : TypeId} {fz2 : Nat × Nat} {cs : List AV}
    (h : HoldsE ρ N w true (.nest m d g s f xs none) b F) (hok : ContOk S (.nest m d g s f xs none)) (hlt : b.lt N) (ha : Agree N ρ ρ') (hN : N ≤ N') {n1 n2 : Nat} (hr1 : b.root = some n1) (hr2 : b2.root = some n2)
    (hb2 : ρ' b2 = some (k2, z2)) (h2 : w'.heap[k2]? = some (.cells arr2 T2 fz2)) (hz2 : z2.1 + z2.2 ≤ arr2.size) (hf2 : FzOk fz2 arr2)
    (hkeep : KeepF (fun k c => F k c ∧ ¬ regF (ρ b) k c) w w') (hdis : ∀ k c, regF (ρ' b2) k c → regF (ρ b) k c ∨ ¬ F k c)
    (hold : ∀ i, i < xs.length → ∀ k z arr T fz, ρ b = some (k, z) → w.heap[k]? = some (.cells arr T fz) → ((own arr2 z2).toList.drop (i * m)).take m = ((own arr z).toList.drop (i * m)).take m)
    (hsz : (xs.length + 1) * m ≤ z2.2) (hcl : cs.length = m) (hcs : VRels ρ' cs (((own arr2 z2).toList.drop (xs.length * m)).take m)) (hcn : AV.lts N' cs) (hG : ∀ k c, F k c → G k c) (hG2 : ∀ k c, regF (ρ' b2) k c → G k c) :
    HoldsE ρ' N' w' true (.nest m d g s f xs (some ((xs.length : Int), cs))) b2 G := by
  obtain ⟨⟨ρ1, ho, hh⟩, _⟩ := h
  obtain ⟨⟨hl, hreg⟩, Fs, g1, g2, g3⟩ := hh
  obtain ⟨g4, g5⟩ := g3 rfl
  have hself : ρ1 b = ρ b := ho b (not_under_self b)
  have h0 : Agree 0 ρ1 (moveL b2 b ρ1 ρ') := moveL_zero hr1 hr2 ho fun x hx => ha x (hx.mono (Nat.zero_le _))
  have hself2 : moveL b2 b ρ1 ρ' b2 = ρ' b2 := moveL_off _ _ _ _ b2 (not_under_self b2)
  obtain ⟨⟨T0, hT⟩, hsub⟩ := hok
  have hraw : ∀ x j vs, f x j ≠ .raw vs := fun x j vs q => by have := (hsub x j).2; rw [q] at this; exact this
  have hown2 := own_size (arr := arr2) (z := z2) hz2
  refine ⟨⟨moveL b2 b ρ1 ρ', moveL_off _ _ _ _, ⟨?_, fun k c q => hG2 k c (hself2 ▸ q)⟩, Fs, fun i p1 p2 j p3 => ?_, fun i p1 p2 j p3 k c q => hG k c (g2 i p1 trivial j p3 k c q), fun _ => ⟨fun i p1 p2 j p3 k c q q2 => ?_, fun i p1 p2 j p3 i2 r1 r2 j2 r3 => g5 i p1 trivial j p3 i2 r1 trivial j2 r3⟩⟩, ?_⟩
  · simp only [Lies, hself2, hb2]
    refine ⟨arr2, T2, fz2, h2, hz2, fun _ => hf2, ?_, fun i hi hv => ?_⟩
    · simp only [totalN, Int.toNat_natCast]
      rw [Nat.max_eq_right (by omega), hown2]; exact hsz
    · cases hb : ρ b with
      | none =>
        rw [← hself] at hb
        simp only [Lies, hb] at hl
        rw [hl.1] at hi; simp at hi
      | some kz =>
        obtain ⟨k, z⟩ := kz
        have hb1 := hself.trans hb
        simp only [Lies, hb1] at hl
        obtain ⟨arr, T, fz, e1, e2, e3, e4, e5⟩ := hl
        rw [hold i hi k z arr T fz hb e1]
        exact hT.ren _ _ _ _ _ _ (fun j _ => (moveL_sub (i : Int) j).self) (e5 i hi trivial)
  · refine Holds.ren h0 (hsub _ _).1 (hraw _ _) (moveL_sub (i : Int) j) (N := N) ?_
    refine Holds.turn (hsub _ _).1 (g1 i p1 trivial j p3) hlt.sub (.refl _ _) (Nat.le_refl _) (hkeep.mono fun k c q => ⟨g2 i p1 trivial j p3 k c q, fun q2 => g4 i p1 trivial j p3 k c (hself ▸ q2) q⟩)
  · rcases hdis k c (hself2 ▸ q) with q3 | q3
    · exact g4 i p1 trivial j p3 k c (hself ▸ q3) q2
    · exact q3 (g2 i p1 trivial j p3 k c q2)
  · exact ⟨by omega, by simp only; omega, hcl, hcn, k2, z2, arr2, T2, fz2, hb2, h2, by simpa using hcs⟩

theorem nest_first {α : Type} {m : Nat} {d : α} {g : (Nat → Blk) → α → List AV} {s : List Nat} {f : α → Nat → Cont} {b2 : Blk} {ρ' : Loc} {k2 : Nat} {z2 : Nat × Nat} {arr2 : Array Value} {T2 : TypeId} {fz2 : Nat × Nat} {cs : List AV} {F : Foot}
    (hb2 : ρ' b2 = some (k2, z2)) (h2 : w'.heap[k2]? = some (.cells arr2 T2 fz2)) (hz2 : z2.1 + z2.2 ≤ arr2.size) (hf2 : FzOk fz2 arr2) (hsz : m ≤ z2.2) (hcl : cs.length = m) (hcs : VRels ρ' cs ((own arr2 z2).toList.take m)) (hcn : AV.lts N' cs) (hF : ∀ k c, regF (ρ' b2) k c → F k c) :
    HoldsE ρ' N' w' true (.nest m d g s f [] (some (0, cs))) b2 F := by
  have hown2 := own_size (arr := arr2) (z := z2) hz2
  refine ⟨⟨ρ', .refl _ _, ⟨?_, hF⟩, fun _ _ _ _ => False, fun i hi => by simp at hi, fun i hi => by simp at hi, fun _ => ⟨fun i hi => by simp at hi, fun i hi => by simp at hi⟩⟩, ?_⟩
  · simp only [Lies, hb2]
    refine ⟨arr2, T2, fz2, h2, hz2, fun _ => hf2, ?_, fun i hi => by simp at hi⟩
    simp only [totalN, List.length_nil, Int.toNat_zero]
    rw [Nat.max_eq_right (by omega), hown2]; omega
  · exact ⟨by omega, by simp, hcl, hcn, k2, z2, arr2, T2, fz2, hb2, h2, by simpa using hcs⟩

theorem info_ofN {e : TypeId} {α : Type} {m : Nat} {d : α} {g : (Nat → Blk) → α → List AV} {s : List Nat} {f : α → Nat → Cont} (hT : NestOk S.P e m d g s f) : ∃ i z, S.P.info? e = some i ∧ i.size = m ∧ i.zero = some z ∧ bytesA S e = i.bytes ∧ z.cells.size = m := by
  obtain ⟨zl, hz, hzr⟩ := hT.zero
  have hm := hT.siz
  cases hi : S.P.info? e with
  | none => rw [hi] at hm; simp at hm
  | some i =>
    rw [hi] at hm hz
    simp at hm hz
    obtain ⟨z, hz, hz2⟩ := hz
    refine ⟨i, z, rfl, hm, hz, by simp [bytesA, hi], ?_⟩
    have := (hzr (fun _ => none) (fun _ => .loc 0) fun _ _ => rfl).length
    rw [hT.len, ← hz2] at this
    simpa using this

/-- one value behind a slice -/
theorem one_sound {U : TypeId} {m : Nat} {x : AV} {rx : Value} {K : List AV → Prop} (hH : HRel S ρ H w) (h : oneA S U m x H K) (hx : VRel ρ x rx) :
    ∃ cs rs, K cs ∧ cs.length = m ∧ VRels ρ cs rs ∧ AV.lts H.next cs ∧ flatL cs = true ∧ (∃ el, S.P.underlying U = some (.slice el)) ∧ (∀ w0 : World, (Builtin.lenOf rx).run S.P w0 = .ok 1 w0) ∧
      ∀ w0 : World, w0.heap = w.heap → (Builtin.firstCells m 1 rx).run S.P w0 = .ok rs.toArray w0 := by
  unfold oneA at h
  split at h
  · rename_i el hU
    split at h
    · rename_i b m' n
      split at h
      · rename_i b' rw' c hg
        split at h
        · rename_i cs
          split at h
          · rename_i hcl hm hflat
            have hcl := Nat.eq_of_beq_eq_true hcl
            have hm := Nat.eq_of_beq_eq_true hm
            subst hm
            obtain ⟨rfl, hK⟩ := h
            obtain ⟨hmem, hkey⟩ := getE_mem hg
            simp only at hkey
            subst hkey
            have hl := (hH.holds _ hmem).raw.1
            rcases hx with ⟨_, e2, _⟩ | ⟨k, z, cap, off, e1, e2, e3, e4, e5, e6, e7, rfl⟩
            · omega
            · simp only [Lies, e1] at hl
              obtain ⟨arr, T, fz, g1, g2, g3, g4, g5, g6⟩ := hl
              simp only [Option.getD_none, Int.toNat_zero, Nat.zero_mul, Nat.zero_add] at e6 e7
              have e4 : 1 ≤ cap := e4
              have hoff : off = z.1 := by rcases e7 with q | q; omega; exact q
              subst hoff
              have hll := g5.length
              refine ⟨cs, (own arr z).toList.take cs.length, hK, hcl, g5, g6, hflat, ⟨_, hU⟩, fun w0 => rfl, fun w0 hw => ?_⟩
              have := run_loadCells_list (P := S.P) w0 ⟨k, z.1, none⟩ ((own arr z).toList.take cs.length) (fun j v hv => by
                rw [List.getElem?_take] at hv
                split at hv
                · have hcell : w0.cell? ⟨k, z.1 + j, none⟩ = some v := by
                    simp only [World.cell?, hw, g1]
                    simpa using own_get hv
                  simp only [Addr.add]
                  split
                  · rename_i q; subst q; exact hcell
                  · simpa using hcell
                · simp at hv)
              rw [hll] at this
              simpa [Builtin.firstCells, hcl] using this
          · exact h.elim
        · exact h.elim
      · exact h.elim
    · exact h.elim
  · exact h.elim

theorem appendNK_out {e : TypeId} {α : Type} {m : Nat} {d : α} {g : (Nat → Blk) → α → List AV} {s : List Nat} {f : α → Nat → Cont} {xs : List α} {cs : List AV} {H : Heap} {K : AV → Heap → Prop} (h : appendNK S e m d g s f xs cs H K) :
    (((xs.length + 1 : Nat) : Int) * (bytesA S e : Int) ≤ 140737488355328 ∧ ((xs.length + 1 : Nat) : Int) ≤ 140737488355328) ∧
    K (.sl (.loc H.next) m none ((xs.length + 1 : Nat) : Int)) ⟨⟨.loc H.next, true, .nest m d g s f xs (some ((xs.length : Int), cs))⟩ :: H.ents, H.next + 1⟩ := by
  have h' := natK_out h
  clear h
  obtain ⟨h1, h⟩ := h'
  have h := pushK_out h
  exact ⟨h1, natK_out h⟩

/-- cells written behind what there is -/
theorem room_store {k n : Nat} {zz : Nat × Nat} {arr0 : Array Value} {TT : TypeId} {fz : Nat × Nat} {news : List Value} (g1 : w.heap[k]? = some (.cells arr0 TT fz)) (g2 : zz.1 + zz.2 ≤ arr0.size) (g3 : FzOk fz arr0) (hfit : n + news.length ≤ zz.2) (hone : ∀ v ∈ news, v.oneCell' = true) :
    ∃ w'' arr', (storeCells (Addr.add ⟨k, zz.1, none⟩ n) news).run S.P w = .ok () w'' ∧ w''.heap[k]? = some (.cells arr' TT fz) ∧ arr'.size = arr0.size ∧
      (own arr' zz).toList = (own arr0 zz).toList.take n ++ (news ++ (own arr0 zz).toList.drop (n + news.length)) ∧ Kept (fun k' c => ¬ (k' = k ∧ inZ zz c)) w w'' ∧ w''.heap.size = w.heap.size ∧ w''.os = w.os ∧ w''.tape = w.tape ∧ w''.output = w.output := by
  by_cases hz : news = []
  · subst hz
    exact ⟨w, arr0, by simp [storeCells], g1, rfl, by simp, .refl _ _, rfl, rfl, rfl, rfl⟩
  · have hpos : 0 < news.length := List.length_pos_iff.2 hz
    obtain ⟨w'', arr', r1, r2, r3, r4, r5, r6, r7, r8⟩ := store_run S.P k (zz.1 + n) TT fz news 0 arr0 w g1 (by omega) (fun y q1 q2 => by unfold FzOk at g3; omega) hone
    simp only [Nat.add_zero] at r3
    have r3' := own_splice (z := zz) (q := n) (by omega) g2 r3
    have hsize0 : arr'.size = arr0.size := by
      have := congrArg List.length r3
      simp only [List.length_append, List.length_take, List.length_drop, Array.length_toList] at this
      omega
    refine ⟨w'', arr', ?_, r2, hsize0, r3', Kept.one g1 r2 hsize0 (fun q => by unfold FzOk at q ⊢; rw [hsize0]; exact q) (by omega) (fun c hc => ?_) r4, r5, r6, r7, r8⟩
    · have hadd : (Addr.add ⟨k, zz.1, none⟩ n) = ⟨k, zz.1 + n, none⟩ := by
        simp only [Addr.add]; split
        · rename_i q; simp [q]
        · simp
      rw [hadd]; exact r1
    · have hcz : c < zz.1 + n ∨ zz.1 + n + news.length ≤ c := by unfold inZ at hc; omega
      rw [← Array.getElem?_toList, ← Array.getElem?_toList, r3]
      have l1 : (arr0.toList.take (zz.1 + n)).length = zz.1 + n := by simp; omega
      rcases hcz with q | q
      · rw [List.getElem?_append_left (by omega), List.getElem?_take, if_pos q]
      · rw [List.getElem?_append_right (by omega), List.getElem?_append_right (by omega), List.getElem?_drop, l1]
        congr 1; omega

/-- cells at the beginning of a block -/
theorem load_first {k : Nat} {zz : Nat × Nat} {arr0 : Array Value} {TT : TypeId} {fz : Nat × Nat} {n : Nat} (g1 : w.heap[k]? = some (.cells arr0 TT fz)) (g2 : zz.1 + zz.2 ≤ arr0.size) (hn : n ≤ zz.2) {w0 : World} (hw : w0.heap = w.heap) :
    (loadCells ⟨k, zz.1, none⟩ n).run S.P w0 = .ok ((own arr0 zz).toList.take n).toArray w0 := by
  have hl : ((own arr0 zz).toList.take n).length = n := by simp [own_size g2]; omega
  have := run_loadCells_list (P := S.P) w0 ⟨k, zz.1, none⟩ ((own arr0 zz).toList.take n) (fun j v hv => by
    rw [List.getElem?_take] at hv
    split at hv
    · have hcell : w0.cell? ⟨k, zz.1 + j, none⟩ = some v := by
        simp only [World.cell?, hw, g1]
        simpa using own_get hv
      simp only [Addr.add]
      split
      · rename_i q; subst q; exact hcell
      · simpa using hcell
    · simp at hv)
  rw [hl] at this
  exact this

theorem vals_zero {e : TypeId} {α : Type} {E : Enc α} (hE : EncOk S.P e E) {z : Value} {i : TypeInfo} (hi : S.P.info? e = some i) (hz : i.zero = some z) (n : Nat) : Vals ρ N E (List.replicate n E.d) (Builtin.zeroCells z.cells n).toList := by
  obtain ⟨zl, hz1, hz2⟩ := hE.zero
  rw [hi] at hz1
  simp [hz] at hz1
  subst hz1
  have hr := hz2 ρ
  have hm : z.cells.toList.length = E.m := by rw [hr.length, hE.len]
  have hlist : (Builtin.zeroCells z.cells n).toList = (List.replicate n z.cells.toList).flatten := zeroCells_list _ _
  rw [hlist]
  refine ⟨by simp [hm], fun t ht => ?_⟩
  rw [List.length_replicate] at ht
  rw [flatten_piece hm (by simpa using ht)]
  simp only [List.getD_eq_getElem?_getD, List.getElem?_replicate, if_pos ht, Option.getD_some]
  exact hr


/-- how an append runs, with room and without -/
def AppRuns (S : Seat) (w : World) (T U ty e : TypeId) (i : TypeInfo) (z ra rx : Value) (rs : List Value) (m : Nat) : Prop :=
  (∀ (base : Option Addr) (n cap : Nat) (w'' : World), ra = .slice base n cap → m * i.bytes ≤ 140737488355328 → n + m ≤ cap → (match base with | none => w'' = w | some a => (storeCells (a.add (n * i.size)) rs).run S.P w = .ok () w'') →
    (Builtin.append_ #[T, U] ty #[ra, rx]).run S.P w = .ok (.slice base (n + m) cap) w'') ∧
  ∀ (base : Option Addr) (n cap : Nat) (olds : List Value), ra = .slice base n cap → (Builtin.firstCells i.size n ra).run S.P w.drew = .ok olds.toArray w.drew → cap < n + m → n ≤ cap → (n + m) * i.bytes ≤ 140737488355328 → n + m ≤ 140737488355328 →
    (Builtin.append_ #[T, U] ty #[ra, rx]).run S.P w =
      .ok (.slice (some ⟨w.heap.size, 0, none⟩) (n + m) (grownCap w (n + m) cap e)) (w.drew.alloc (.cells (olds ++ rs ++ (Builtin.zeroCells z.cells (grownCap w (n + m) cap e - (n + m))).toList).toArray e))
theorem appRuns_src {T U ty e : TypeId} {i : TypeInfo} {z ra rx : Value} {rs : List Value} {m : Nat} (hT : S.P.underlying T = some (.slice e)) (hU : (∃ el, S.P.underlying U = some (.slice el)) ∨ S.P.underlying U = some .string) (hi : S.P.info? e = some i) (hz : i.zero = some z)
    (hl : ∀ w : World, (Builtin.lenOf rx).run S.P w = .ok m w) (hf0 : (Builtin.firstCells i.size m rx).run S.P w = .ok rs.toArray w) (hf1 : (Builtin.firstCells i.size m rx).run S.P w.drew = .ok rs.toArray w.drew) : AppRuns S w T U ty e i z ra rx rs m :=
  ⟨fun base _ _ _ hs _ hroom hst => append_room hT hU hi hs (hl w) hf0 hroom (by cases base <;> exact hst), fun _ _ _ _ hs ho hroom hle hb h63 => append_grow hT hU hi hz hs (hl w) hf1 ho hroom hle hb h63⟩
set_option maxHeartbeats 1000000 in
theorem appRuns_zero {T U ty e : TypeId} {i : TypeInfo} {z ra : Value} {n : Int} {k : IntKind} (hT : S.P.underlying T = some (.slice e)) (hU : S.P.underlying U = some (.int k)) (hi : S.P.info? e = some i) (hz : i.zero = some z) (hzp : 0 < i.size) (h0 : 0 ≤ n) (h1 : n ≤ 140737488355328) :
    AppRuns S w T U ty e i z ra (.int .i64 n) (Builtin.zeroCells z.cells n.toNat).toList n.toNat := by
  have hw : IntKind.i64.wrap n = n := wrap_in (by show -9223372036854775808 ≤ n ∧ n ≤ 9223372036854775807; omega)
  have hn : ¬ n < 0 := by omega
  have hnn : ((n.toNat : Nat) : Int) = n := Int.toNat_of_nonneg h0
  have hsz : (sizeOf e).run S.P w = .ok i.size w := by simp [sizeOf, typeInfo, hi]
  have has : ∀ w : World, (asInt (.int .i64 n)).run S.P w = .ok n w := fun w => by simp [asInt, asIntOf]
  have hnz : n.toNat * i.size = 0 ↔ n.toNat = 0 := by simp [Nat.mul_eq_zero, Nat.ne_of_gt hzp]
  refine ⟨?_, ?_⟩
  · intro base m cap w'' hs hB hroom hst
    have hB' : ¬ (281474976710656 < n * (i.bytes : Int)) := by
      have : ((n.toNat * i.bytes : Nat) : Int) = n * (i.bytes : Int) := by rw [Int.natCast_mul, hnn]
      omega
    subst hs
    cases base with
    | none =>
      simp only at hst
      subst hst
      simp [Builtin.append_, run_und hT, run_und hU, hsz, has, hw, hn, hB', hnz, hroom, typeInfo, hi, zeroValue, hz]
    | some a =>
      simp only at hst
      simp [Builtin.append_, run_und hT, run_und hU, hsz, has, hw, hn, hB', hnz, hroom, typeInfo, hi, zeroValue, hz]
      by_cases hle0 : n ≤ 0
      · rw [if_pos hle0]
        rw [show n.toNat = 0 by omega] at hst ⊢
        have hst : (storeCells (a.add (m * i.size)) []).run S.P w = .ok () w'' := by simpa [Builtin.zeroCells] using hst
        rw [hst]
        rfl
      · rw [if_neg hle0, hst]
        rfl
  · intro base m cap olds hs ho hroom hle hb h63
    have hB' : ¬ (281474976710656 < n * (i.bytes : Int)) := by
      have : ((n.toNat * i.bytes : Nat) : Int) = n * (i.bytes : Int) := by rw [Int.natCast_mul, hnn]
      have : n.toNat * i.bytes ≤ (m + n.toNat) * i.bytes := Nat.mul_le_mul_right _ (by omega)
      omega
    subst hs
    have hroom' : ¬ (m + n.toNat ≤ cap) := by omega
    have h63' : ¬ (9223372036854775807 < ((m : Int) + ((n.toNat : Nat) : Int))) := by omega
    have h48 := growslice_fits hroom hb
    have h48' : ¬ (281474976710656 < Builtin.nextslicecap (m + n.toNat) cap * i.bytes) := by omega
    have h63'' : ¬ (9223372036854775807 < (m : Int) + max n 0) := by omega
    have hpos : ¬ n ≤ 0 := by omega
    simp [Builtin.append_, run_und hT, run_und hU, hsz, has, hw, hn, hB', hnz, hroom', h63', h63'', hpos, h48', typeInfo, hi, zeroValue, hz, Question.forced, ho, newRow, grownCap]
    congr 2
    apply Array.ext'
    simp
theorem srcZ_sound (hS : SeatOk S) {T U ty e : TypeId} {α : Type} {E : Enc α} {i : TypeInfo} {z ra rx : Value} {x : AV} {K : List α → Prop} (hE : EncOk S.P e E) (hH : HRel S ρ H w) (hT : S.P.underlying T = some (.slice e)) (hi : S.P.info? e = some i) (him : i.size = E.m) (hiz : i.zero = some z)
    (h : srcZ S U E x H K) (hx : VRel ρ x rx) : ∃ (ys : List α) (rs : List Value), K ys ∧ Vals ρ H.next E ys rs ∧ AppRuns S w T U ty e i z ra rx rs ys.length := by
  unfold srcZ at h
  split at h
  · rename_i k hU
    split at h
    · rename_i n
      obtain ⟨⟨h0, h1⟩, hK⟩ := h
      have hx : rx = .int .i64 n := hx
      subst hx
      refine ⟨_, _, hK, vals_zero hE hi hiz n.toNat, ?_⟩
      rw [List.length_replicate]
      exact appRuns_zero hT hU hi hiz (by rw [him]; exact hE.pos) h0 h1
    · exact h.elim
  · obtain ⟨ys, rs, h', hv, hU, hlen, hmax, hfirst⟩ := src_sound (N := H.next) hE hH h hx
    have hall : rs.take (ys.length * E.m) = rs := List.take_of_length_le (by rw [hv.1]; omega)
    have hf0 : (Builtin.firstCells i.size ys.length rx).run S.P w = .ok rs.toArray w := by rw [him, hfirst _ w rfl (Nat.le_refl _), hall]
    have hf1 : (Builtin.firstCells i.size ys.length rx).run S.P w.drew = .ok rs.toArray w.drew := by rw [him, hfirst _ w.drew (drew_heap w) (Nat.le_refl _), hall]
    exact ⟨ys, rs, h', hv, appRuns_src hT hU hi hiz hlen hf0 hf1⟩

set_option maxHeartbeats 1000000 in
theorem append_sound (hS : SeatOk S) {T U ty : TypeId} {a x : AV} {ra rx : Value} {K : AV → Heap → Prop} (hH : HRel S ρ H w) (ha : VRel ρ a ra) (hx : VRel ρ x rx)
    (h : appendA S T U a x H K) : AppOp S ρ H w (Builtin.append_ #[T, U] ty #[ra, rx]) K := by
  unfold appendA at h
  split at h
  · rename_i e hT
    split at h
    · rename_i α E hh
      have hE : EncOk S.P e E := hS.hint _ _ hh
      obtain ⟨i, z, hi, him, hiz, hby⟩ := info_of hE
      obtain ⟨ys, rs, h', hv, hRoom, hGrow⟩ := srcZ_sound (ty := ty) (ra := ra) hS hE hH hT hi him hiz h hx
      clear h
      have h := h'
      clear h'
      -- growing into a new block
      have grow : ∀ (base : Option Addr) (cap : Nat) (xs : List α) (olds : List Value) (l : List Ent), l.Sublist H.ents → ra = .slice base xs.length cap → xs.length ≤ cap → cap < xs.length + ys.length → Vals ρ H.next E xs olds →
          (Builtin.firstCells i.size xs.length ra).run S.P w.drew = .ok olds.toArray w.drew → appendK S E e xs ys ⟨l, H.next⟩ K → AppOp S ρ H w (Builtin.append_ #[T, U] ty #[ra, rx]) K := by
        intro base cap xs olds l hl hra hle hroom ho hof hK
        obtain ⟨⟨hb, hb2⟩, hK⟩ := appendK_out hK
        rw [hby] at hb
        have hb' : (xs.length + ys.length) * i.bytes ≤ 140737488355328 := Int.ofNat_le.1 (by rw [Int.natCast_mul]; exact hb)
        have hb2' : xs.length + ys.length ≤ 140737488355328 := by omega
        have hrun := hGrow base xs.length cap olds hra hof hroom hle hb' hb2'
        have hcapge : xs.length + ys.length ≤ grownCap w (xs.length + ys.length) cap e := by unfold grownCap Question.cut; exact Nat.le_add_right _ _
        have hcaple : grownCap w (xs.length + ys.length) cap e ≤ 9223372036854775807 := by
          have := grownCap_le_maxLen w (xs.length + ys.length) cap e (by unfold maxLen; omega)
          unfold maxLen at this
          exact this
        have hvals := Vals.append hE ho hv
        generalize harr : (olds ++ rs ++ (Builtin.zeroCells z.cells (grownCap w (xs.length + ys.length) cap e - (xs.length + ys.length))).toList).toArray = arr at hrun
        have hlist : arr.toList = (olds ++ rs) ++ (Builtin.zeroCells z.cells (grownCap w (xs.length + ys.length) cap e - (xs.length + ys.length))).toList := by rw [← harr]
        have hzs : z.cells.size = E.m := by
          obtain ⟨zl, hz, hzr⟩ := hE.zero
          rw [hi] at hz
          simp [hiz] at hz
          subst hz
          have := (hzr ρ).length
          rw [hE.len] at this
          simpa using this
        have hsize : arr.size = grownCap w (xs.length + ys.length) cap e * E.m := by
          have l1 := hvals.1
          have l2 : (Builtin.zeroCells z.cells (grownCap w (xs.length + ys.length) cap e - (xs.length + ys.length))).toList.length = (grownCap w (xs.length + ys.length) cap e - (xs.length + ys.length)) * E.m := by
            rw [Array.length_toList, size_zeroCells, hzs]
          have l3 := congrArg List.length hlist
          rw [List.length_append, l1, l2, List.length_append, ← Nat.add_mul, Array.length_toList] at l3
          rw [l3]; congr 1; omega
        have hpush := hH.push (c := .arr E (xs ++ ys)) (Grew.drew_alloc w (.cells arr e)) (.inl rfl) ⟨e, hE⟩ (.arr fun b => hvals.lie hE hlist b)
        have hafter := hpush.sub (l := ⟨.loc H.next, true, .arr E (xs ++ ys)⟩ :: l) (hl.cons_cons _)
        refine ⟨_, _, _, _, _, hrun, hK, ?_, loc_lt _, hafter⟩
        refine sl_fresh (Lay.set_self _ _ _ _) rfl (by omega) ?_ _ hcapge hcaple ?_
        · rw [hsize]; exact Nat.mul_le_mul_right _ hcapge
        · rw [hsize]; omega
      -- nothing to nothing
      have nothing : ∀ (base : Option Addr) (l : List Ent), l.Sublist H.ents → ra = .slice base 0 0 → ys = [] → appendK S E e [] ys ⟨l, H.next⟩ K → AppOp S ρ H w (Builtin.append_ #[T, U] ty #[ra, rx]) K := by
        rintro base l hl hra rfl hK
        obtain ⟨_, hK⟩ := appendK_out hK
        have hrs : rs = [] := List.eq_nil_of_length_eq_zero (by rw [hv.1]; simp)
        subst hrs
        have hrun := hRoom base 0 0 w hra (by simp) (by simp) (by cases base <;> simp [storeCells])
        have hnone := hH.nothing (c := .arr E ([] ++ [])) (by simp [Cont.empty]) trivial ⟨e, hE⟩
        have hafter := hnone.sub (l := ⟨.loc H.next, true, .arr E ([] ++ [])⟩ :: l) (hl.cons_cons _)
        exact ⟨_, _, _, _, _, hrun, hK, .inl ⟨Lay.set_self _ _ _ _, rfl, rfl, base, rfl⟩, loc_lt _, hafter⟩
      have fromNil : ∀ (base : Option Addr) (l : List Ent), l.Sublist H.ents → ra = .slice base 0 0 → appendK S E e [] ys ⟨l, H.next⟩ K → AppOp S ρ H w (Builtin.append_ #[T, U] ty #[ra, rx]) K := by
        intro base l hl hra hK
        by_cases hy : ys = []
        · exact nothing base l hl hra hy hK
        · have : 0 < ys.length := List.length_pos_iff.2 hy
          refine grow base 0 [] [] l hl hra (by simp) (by simpa using this) ⟨by simp, fun t ht => by simp at ht⟩ ?_ hK
          rw [hra]
          cases base with
          | none => simp [Builtin.firstCells]
          | some a => simp [Builtin.firstCells, loadCells, loadCellsFrom]
      -- behind what there is
      have behind : ∀ (b : Blk) (io : Option Int) (xs0 xs : List α), getE H.ents b = some ⟨b, true, .arr E xs0⟩ → xs0.take xs.length = xs → io.getD 0 = 0 → VRel ρ (.sl b E.m io xs.length) ra → appendK S E e xs ys ⟨delE H.ents b, H.next⟩ K → AppOp S ρ H w (Builtin.append_ #[T, U] ty #[ra, rx]) K := by
        intro b io xs0 xs hg hxs0 hio ha h
        obtain ⟨hmem, _⟩ := getE_mem hg
        have hhold := (hH.holds _ hmem).arr
        have hlies := hhold.1
        rcases ha with ⟨e1, e2, e3, base, hra⟩ | ⟨k, zz, cap, off, e1, e2, e3, e4, e5, e6, e7, hra⟩
        · have : xs = [] := List.eq_nil_of_length_eq_zero (by omega)
          subst this
          exact fromNil base _ (delE_sub _ _) hra h
        · simp only [Int.toNat_natCast] at e4 hra
          rw [hio] at e6 e7
          simp only [Int.toNat_zero, Nat.zero_mul, Nat.zero_add, Nat.add_zero] at e6 e7
          simp only [Lies, e1] at hlies
          obtain ⟨arr0, TT, fz, g1, g2, g3, g4⟩ := hlies
          have g3 := g3 trivial
          have hsz2 := own_size g2
          have hle0 : xs.length ≤ xs0.length := by have := congrArg List.length hxs0; simp at this; omega
          have hxs : Vals ρ H.next E xs ((own arr0 zz).toList.take (xs.length * E.m)) := by
            have := (lie_vals hE g4).take xs.length
            rw [hxs0] at this
            have hmm : xs.length * E.m ≤ xs0.length * E.m := Nat.mul_le_mul_right _ hle0
            rwa [List.take_take, Nat.min_eq_left hmm] at this
          by_cases hroom : xs.length + ys.length ≤ cap
          · obtain ⟨⟨hbb, _⟩, hK⟩ := appendK_out h
            rw [hby] at hbb
            have hbb' : (xs.length + ys.length) * i.bytes ≤ 140737488355328 := Int.ofNat_le.1 (by rw [Int.natCast_mul]; exact hbb)
            have hyb : ys.length * i.bytes ≤ 140737488355328 := Nat.le_trans (Nat.mul_le_mul_right _ (by omega)) hbb'
            have hone := hv.one hE
            have hfit : (xs.length + ys.length) * E.m ≤ cap * E.m := Nat.mul_le_mul_right _ hroom
            rw [Nat.add_mul] at hfit
            have hrs := hv.1
            obtain ⟨w'', arr', r1, r2, hsize0, r3, hkept, r5, r6, r7, r8⟩ := room_store (S := S) (n := xs.length * E.m) (news := rs) g1 g2 g3 (by omega) hone
            have hoff : cap ≠ 0 → off = zz.1 := fun q => by rcases e7 with p | p; exact absurd p q; exact p
            have hst : (match (some (⟨k, off, none⟩ : Addr)) with | none => w'' = w | some a => (storeCells (a.add (xs.length * i.size)) rs).run S.P w = .ok () w'') := by
              by_cases hcap : cap = 0
              · have hy0 : ys = [] := List.eq_nil_of_length_eq_zero (by omega)
                have hrs0 : rs = [] := List.eq_nil_of_length_eq_zero (by rw [hv.1, hy0]; simp)
                subst hrs0
                simp only [storeCells] at r1 ⊢
                exact r1
              · rw [hoff hcap, him]; exact r1
            have hrun := hRoom _ _ _ _ hra hyb hroom hst
            have hvals := Vals.append hE hxs hv
            have hlist : (own arr' zz).toList = ((own arr0 zz).toList.take (xs.length * E.m) ++ rs) ++ (own arr0 zz).toList.drop (xs.length * E.m + rs.length) := by rw [r3, List.append_assoc]
            have ha2 := Lay.set_agree ρ H.next (ρ b) (ρ.foot b)
            have hl : HoldsE (ρ.set H.next (ρ b) (ρ.foot b)) (H.next + 1) w'' true (.arr E (xs ++ ys)) (.loc H.next) (ρ.foot b) := by
              refine ⟨?_, fun k c q => hhold.2 k c (by rw [Lay.set_self] at q; exact q)⟩
              simp only [Lies, Lay.set_self, e1]
              refine ⟨arr', TT, fz, r2, by omega, fun _ => by unfold FzOk at g3 ⊢; rw [hsize0]; exact g3, ?_⟩
              exact ElemsLie.agree (hvals.lie hE hlist (.loc H.next)) (by rw [← e1]; exact ha2) (Nat.le_succ _)
            have hafter := hH.move (c := .arr E (xs ++ ys)) hg rfl ⟨e, hE⟩ (fun k' c q => hhold.2 k' c (by have q := Classical.not_not.1 q; exact ⟨zz, by rw [q.1]; exact e1, q.2⟩)) hkept (by omega) hl r6 r7 r8
            refine ⟨_, _, _, _, _, hrun, hK, .inr ⟨k, zz, cap, off, by rw [Lay.set_self, e1], by simp, by omega, by rw [Int.toNat_natCast]; exact hroom, e5, by simpa using e6, by simpa using e7, by rw [Int.toNat_natCast]⟩, loc_lt _, hafter⟩
          · have hle : xs.length ≤ cap := e4
            refine grow (some ⟨k, off, none⟩) cap xs ((own arr0 zz).toList.take (xs.length * E.m)) _ (delE_sub _ _) hra hle (by omega) hxs ?_ h
            rw [hra, him]
            by_cases hcap : cap = 0
            · have hx0 : xs = [] := List.eq_nil_of_length_eq_zero (by omega)
              subst hx0
              simp [Builtin.firstCells, loadCells, loadCellsFrom]
            · have hoff : off = zz.1 := by rcases e7 with q | q; exact absurd q hcap; exact q
              subst hoff
              have hmm : xs.length * E.m ≤ cap * E.m := Nat.mul_le_mul_right _ hle
              exact load_first (S := S) g1 g2 (by omega) (drew_heap w)
      split at h
      · obtain ⟨b, hb⟩ := ha
        exact fromNil b H.ents (List.Sublist.refl _) hb h
      · rename_i b m io n
        split at h
        · rename_i b' c hg
          obtain ⟨hmem, hkey⟩ := getE_mem hg
          have hkey := hkey.symm
          simp only at hkey
          subst hkey
          split at h
          · obtain ⟨xs, ⟨rfl, rfl, rfl⟩, h⟩ := h
            exact behind b none xs xs hg (List.take_length) rfl ha (delK_out h)
          · rename_i i0
            obtain ⟨xs, ⟨rfl, rfl, rfl, hn0, hn⟩, h⟩ := h
            have hl : (xs.take n.toNat).length = n.toNat := by simp; omega
            exact behind b (some 0) xs (xs.take n.toNat) hg (by rw [hl]) rfl (by rw [hl, Int.toNat_of_nonneg hn0]; exact ha) (delK_out h)
        · exact h.elim
      · exact h.elim
    · split at h
      · rename_i α m d g sl f hh
        obtain ⟨hT0, hsub⟩ := hS.nest _ _ hh
        obtain ⟨i, z, hi, him, hiz, hby, hzs⟩ := info_ofN hT0
        obtain ⟨cs, rs, h', hcl, hcs, hcn, hflat, hU, hlen, hfirst⟩ := one_sound hH h hx
        clear h
        have h := h'
        clear h'
        have hU' : (∃ el, S.P.underlying U = some (.slice el)) ∨ S.P.underlying U = some .string := .inl hU
        have hrl : rs.length = m := by rw [hcs.length, hcl]
        have hf0 : (Builtin.firstCells i.size 1 rx).run S.P w = .ok rs.toArray w := by rw [him]; exact hfirst w rfl
        have hf1 : (Builtin.firstCells i.size 1 rx).run S.P w.drew = .ok rs.toArray w.drew := by rw [him]; exact hfirst w.drew (drew_heap w)
        -- growing into a new block
        have grow : ∀ (base : Option Addr) (cap : Nat) (xs : List α) (olds : List Value) (l : List Ent) (G : Foot), l.Sublist H.ents → (∀ x ∈ l, Disj G (ρ.foot x.b)) → (∀ k c, G k c → RwF ρ H k c) → ra = .slice base xs.length cap → xs.length ≤ cap → cap < xs.length + 1 → olds.length = xs.length * m →
            (Builtin.firstCells i.size xs.length ra).run S.P w.drew = .ok olds.toArray w.drew →
            (∀ (w' : World) (arr : Array Value) (rest : List Value), Grew w w' (.cells arr e) → arr.toList = olds ++ rs ++ rest → HoldsE (ρ.set H.next (some (w.heap.size, (0, arr.size))) (fun k c => G k c ∨ regF (some (w.heap.size, (0, arr.size))) k c)) (H.next + 1) w' true (.nest m d g sl f xs (some ((xs.length : Int), cs))) (.loc H.next) (fun k c => G k c ∨ regF (some (w.heap.size, (0, arr.size))) k c)) →
            appendNK S e m d g sl f xs cs ⟨l, H.next⟩ K → AppOp S ρ H w (Builtin.append_ #[T, U] ty #[ra, rx]) K := by
          intro base cap xs olds l G hl hG hGR hra hle hroom holl hof hhold hK
          obtain ⟨⟨hb, hb2⟩, hK⟩ := appendNK_out hK
          rw [hby] at hb
          have hb' : (xs.length + 1) * i.bytes ≤ 140737488355328 := Int.ofNat_le.1 (by rw [Int.natCast_mul]; exact hb)
          have hb2' : xs.length + 1 ≤ 140737488355328 := by omega
          have hrun := append_grow (ty := ty) hT hU' hi hiz hra (hlen w) hf1 hof hroom hle hb' hb2'
          have hcapge : xs.length + 1 ≤ grownCap w (xs.length + 1) cap e := by unfold grownCap Question.cut; exact Nat.le_add_right _ _
          have hcaple : grownCap w (xs.length + 1) cap e ≤ 9223372036854775807 := by
            have := grownCap_le_maxLen w (xs.length + 1) cap e (by unfold maxLen; omega)
            unfold maxLen at this
            exact this
          generalize harr : (olds ++ rs ++ (Builtin.zeroCells z.cells (grownCap w (xs.length + 1) cap e - (xs.length + 1))).toList).toArray = arr at hrun
          have hlist : arr.toList = olds ++ rs ++ (Builtin.zeroCells z.cells (grownCap w (xs.length + 1) cap e - (xs.length + 1))).toList := by rw [← harr]
          have hsize : arr.size = grownCap w (xs.length + 1) cap e * m := by
            have l2 : (Builtin.zeroCells z.cells (grownCap w (xs.length + 1) cap e - (xs.length + 1))).toList.length = (grownCap w (xs.length + 1) cap e - (xs.length + 1)) * m := by
              rw [Array.length_toList, size_zeroCells, hzs]
            have l3 := congrArg List.length hlist
            rw [List.length_append, l2, List.length_append, holl, hrl, Array.length_toList] at l3
            have : xs.length * m + m = (xs.length + 1) * m := by rw [Nat.add_mul, Nat.one_mul]
            rw [l3, this, ← Nat.add_mul]; congr 1; omega
          have hg := Grew.drew_alloc w (.cells arr e)
          have hh := hhold _ arr _ hg hlist
          have hsz : w.heap.size ≤ (w.drew.alloc (.cells arr e)).heap.size := by rw [hg.size]; omega
          have reg : ∀ k c, regF (some (w.heap.size, (0, arr.size))) k c → k = w.heap.size := by rintro k c ⟨z, q, _⟩; simp at q; exact q.1.symm
          have hGlt : ∀ k c, G k c → k < w.heap.size := fun k c q => by obtain ⟨y, p1, _, p3⟩ := hGR k c q; exact hH.low y p1 k c p3
          have hagree := Lay.set_agree ρ H.next (some (w.heap.size, (0, arr.size))) (fun k c => G k c ∨ regF (some (w.heap.size, (0, arr.size))) k c)
          have hafter : After S ρ H w (ρ.set H.next (some (w.heap.size, (0, arr.size))) (fun k c => G k c ∨ regF (some (w.heap.size, (0, arr.size))) k c)) ⟨⟨.loc H.next, true, .nest m d g sl f xs (some ((xs.length : Int), cs))⟩ :: l, H.next + 1⟩ (w.drew.alloc (.cells arr e)) := by
            refine ⟨by simp, hagree, hH.add hl ⟨⟨_, hT0⟩, hsub⟩ hsz hh (fun x hx => ?_) (fun x hx _ k c q p => ?_) (fun k c q => ?_), hsz, ⟨fun k o e' _ => (hg.old k (Array.getElem?_eq_some_iff.1 e').1).trans e', keepF_grew hg _⟩, ?_, hg.os, hg.tape, hg.output⟩
            · exact (hH.holds x (hl.subset hx)).turn (hH.enc x (hl.subset hx)) (hH.key x (hl.subset hx)).1 hagree (by simp) (keepF_grew hg _)
            · rcases q with q | q
              · exact hG x hx k c q p
              · have := reg k c q
                have := hH.low x (hl.subset hx) k c p
                omega
            · rcases q with q | q
              · exact Nat.lt_of_lt_of_le (hGlt k c q) hsz
              · have := reg k c q
                rw [hg.size]; omega
            · rintro k c ⟨x, hx, hxr, q⟩
              rcases List.mem_cons.1 hx with rfl | hx
              · simp only at q; rw [Lay.set_foot] at q
                rcases q with q | q
                · exact .inr (hGR k c q)
                · left; have := reg k c q; omega
              · rw [Lay.set_old _ _ _ (hH.key x (hl.subset hx)).1] at q
                exact .inr ⟨x, hl.subset hx, hxr, q⟩
          refine ⟨_, _, _, _, _, hrun, hK, ?_, loc_lt _, hafter⟩
          refine sl_fresh (Lay.set_self _ _ _ _) rfl (by omega) ?_ _ hcapge hcaple ?_
          · rw [hsize]; exact Nat.mul_le_mul_right _ hcapge
          · rw [hsize]; omega
        have fromNil : ∀ (base : Option Addr) (l : List Ent), l.Sublist H.ents → ra = .slice base 0 0 → appendNK S e m d g sl f [] cs ⟨l, H.next⟩ K → AppOp S ρ H w (Builtin.append_ #[T, U] ty #[ra, rx]) K := by
          intro base l hl hra hK
          refine grow base 0 [] [] l (fun _ _ => False) hl (fun _ _ _ _ q => q.elim) (fun _ _ q => q.elim) hra (by simp) (by simp) (by simp) ?_ (fun w' arr rest hg hlist => ?_) hK
          · rw [hra]
            cases base with
            | none => simp [Builtin.firstCells]
            | some a => simp [Builtin.firstCells, loadCells, loadCellsFrom]
          · have hsa := congrArg List.length hlist
            simp only [List.nil_append, List.length_append, Array.length_toList, hrl] at hsa
            refine nest_first (Lay.set_self _ _ _ _) hg.new (by simp) (.inl rfl) (by simp only; omega) hcl ?_ (hcn.mono (by simp)) (fun k c q => .inr (by rw [Lay.set_self] at q; exact q))
            rw [own_all, hlist, List.nil_append, List.take_append_of_le_length (by omega), List.take_of_length_le (by omega)]
            exact hcs.agree (Lay.set_agree _ _ _ _) hcn
        split at h
        · obtain ⟨b, hb⟩ := ha
          exact fromNil b H.ents (List.Sublist.refl _) hb h
        · rename_i nb m' n
          generalize hkb : Blk.loc nb = b at h ha
          split at h
          · rename_i b' c hg
            obtain ⟨hmem, hkey⟩ := getE_mem hg
            have hkey := hkey.symm
            simp only at hkey
            subst hkey
            obtain ⟨xs, ⟨rfl, hm', rfl⟩, h⟩ := h
            have hm' := hm'.symm
            subst hm'
            have h := delK_out h
            have hhold := hH.holds _ hmem
            simp only at hhold
            have hok := hH.enc _ hmem
            have hblt := (hH.key _ hmem).1
            have hbk := (hH.key _ hmem).2
            have hdel : ∀ x ∈ delE H.ents b, Disj (ρ.foot b) (ρ.foot x.b) := fun x hx => by
              obtain ⟨q1, q2⟩ := delE_mem hg hH.keys x hx
              exact hH.sep _ hmem x q1 (.inl rfl) (Ne.symm q2)
            rcases ha with ⟨e1, e2, e3, base, hra⟩ | ⟨k, zz, cap, off, e1, e2, e3, e4, e5, e6, e7, hra⟩
            · have : xs = [] := List.eq_nil_of_length_eq_zero (by omega)
              subst this
              exact fromNil base _ (delE_sub _ _) hra h
            · simp only [Int.toNat_natCast] at e4 hra
              simp only [Option.getD_none, Int.toNat_zero, Nat.zero_mul, Nat.zero_add, Nat.add_zero] at e6 e7
              obtain ⟨arr0, TT, fz, g1, g2, g3⟩ := hhold.block e1
              have g3 := g3 rfl
              have hsz2 := own_size g2
              -- a block that is no constant's
              have hroot : b.root = some nb := hkb ▸ rfl
              have hlieN : xs.length * m ≤ zz.2 := by
                obtain ⟨⟨ρ1, o1, o2⟩, _⟩ := hhold
                have hb1 : ρ1 b = some (k, zz) := by rw [o1 b (not_under_self b)]; exact e1
                have hlie := o2.1.1
                simp only [Lies, hb1] at hlie
                obtain ⟨arr1, T1, fz1, p1, p2, p3, htot, _⟩ := hlie
                rw [own_size p2] at htot
                exact htot
              by_cases hroom : xs.length + 1 ≤ cap
              · obtain ⟨_, hK⟩ := appendNK_out h
                have hone : ∀ v ∈ rs, v.oneCell' = true := flatL_one hflat hcs
                have hfit : (xs.length + 1) * m ≤ cap * m := Nat.mul_le_mul_right _ hroom
                rw [Nat.add_mul, Nat.one_mul] at hfit
                obtain ⟨w'', arr', r1, r2, hsize0, r3, hkept, r5, r6, r7, r8⟩ := room_store (S := S) (n := xs.length * m) (news := rs) g1 g2 g3 (by omega) hone
                have hoff : off = zz.1 := by rcases e7 with p | p; omega; exact p
                have hst : (match (some (⟨k, off, none⟩ : Addr)) with | none => w'' = w | some a => (storeCells (a.add (xs.length * i.size)) rs).run S.P w = .ok () w'') := by
                  rw [hoff, him]; exact r1
                have hrun := append_room (ty := ty) hT hU' hi hra (hlen w) hf0 hroom hst
                have ha2 := Lay.set_agree ρ H.next (ρ b) (ρ.foot b)
                have hl : HoldsE (ρ.set H.next (ρ b) (ρ.foot b)) (H.next + 1) w'' true (.nest m d g sl f xs (some ((xs.length : Int), cs))) (.loc H.next) (ρ.foot b) := by
                  have hself := Lay.set_self ρ H.next (ρ b) (ρ.foot b)
                  refine nest_snoc (k2 := k) (z2 := zz) hhold hok hblt ha2 (by simp) hroot rfl (by rw [hself]; exact e1) r2 (by omega) (by unfold FzOk at g3 ⊢; rw [hsize0]; exact g3) (hkept.cells.mono fun k' c q p => q.2 ⟨zz, by rw [p.1]; exact e1, p.2⟩) (fun k' c q => .inl (by rw [hself] at q; exact q)) ?_ (by rw [Nat.add_mul, Nat.one_mul]; omega) hcl ?_ (hcn.mono (by simp)) (fun _ _ q => q) (fun k' c q => hhold.reg.2 k' c (by rw [hself] at q; exact q))
                  · intro i' hi' k' z' arr T fz' p1 p2
                    rw [e1] at p1
                    obtain ⟨rfl, rfl⟩ : k = k' ∧ zz = z' := by simpa using p1
                    rw [g1] at p2
                    simp at p2
                    obtain ⟨rfl, rfl, rfl⟩ := p2
                    have hll : (own arr0 zz).toList.length = zz.2 := by simp [hsz2]
                    have : (i' + 1) * m ≤ xs.length * m := Nat.mul_le_mul_right _ (by omega)
                    rw [Nat.add_mul, Nat.one_mul] at this
                    rw [r3]
                    exact splice_apart (by omega) (.inr (by omega))
                  · have hll : (own arr0 zz).toList.length = zz.2 := by simp [hsz2]
                    have := splice_in (L := (own arr0 zz).toList) (news := rs) (j := 0) (i := xs.length) (m := m) (by omega) (by omega)
                    rw [Nat.add_zero] at this
                    rw [r3, this, List.take_zero, List.nil_append, List.drop_of_length_le (by simp only [List.length_take, List.length_drop, hll]; omega), List.append_nil]
                    exact hcs.agree ha2 hcn
                have hafter := hH.move (c := .nest m d g sl f xs (some ((xs.length : Int), cs))) hg rfl ⟨⟨_, hT0⟩, hsub⟩ (fun k' c q => hhold.reg.2 k' c (by have q := Classical.not_not.1 q; exact ⟨zz, by rw [q.1]; exact e1, q.2⟩)) hkept (by omega) hl r6 r7 r8
                refine ⟨_, _, _, _, _, hrun, hK, .inr ⟨k, zz, cap, off, by rw [Lay.set_self, e1], by simp, by omega, by rw [Int.toNat_natCast]; exact hroom, e5, by simpa using e6, by simpa using e7, by rw [Int.toNat_natCast]⟩, loc_lt _, hafter⟩
              · have hle : xs.length ≤ cap := e4
                refine grow (some ⟨k, off, none⟩) cap xs ((own arr0 zz).toList.take (xs.length * m)) _ (ρ.foot b) (delE_sub _ _) hdel (fun k' c q => ⟨_, hmem, rfl, q⟩) hra hle (by omega) (by simp [hsz2]; omega) ?_ (fun w' arr rest hgr hlist => ?_) h
                · rw [hra, him]
                  by_cases hcap : cap = 0
                  · have hx0 : xs = [] := List.eq_nil_of_length_eq_zero (by omega)
                    subst hx0
                    simp [Builtin.firstCells, loadCells, loadCellsFrom]
                  · have hoff : off = zz.1 := by rcases e7 with q | q; exact absurd q hcap; exact q
                    subst hoff
                    exact load_first (S := S) g1 g2 hlieN (drew_heap w)
                · have hself := Lay.set_self ρ H.next (some (w.heap.size, (0, arr.size))) (fun k c => ρ.foot b k c ∨ regF (some (w.heap.size, (0, arr.size))) k c)
                  have ha2 := Lay.set_agree ρ H.next (some (w.heap.size, (0, arr.size))) (fun k c => ρ.foot b k c ∨ regF (some (w.heap.size, (0, arr.size))) k c)
                  have hl0 : ((own arr0 zz).toList.take (xs.length * m)).length = xs.length * m := by simp [hsz2]; omega
                  have hsa := congrArg List.length hlist
                  simp only [List.length_append, Array.length_toList, hrl, hl0] at hsa
                  refine nest_snoc (k2 := w.heap.size) (z2 := (0, arr.size)) hhold hok hblt ha2 (by simp) hroot rfl hself hgr.new (by simp) (.inl rfl) (keepF_grew hgr _) (fun k' c q => .inr fun p => ?_) ?_ (by simp only; rw [Nat.add_mul, Nat.one_mul]; omega) hcl ?_ (hcn.mono (by simp)) (fun _ _ q => .inl q) (fun k' c q => .inr (by rw [hself] at q; exact q))
                  · rw [hself] at q
                    obtain ⟨z', q1, _⟩ := q
                    simp at q1
                    have := hH.low _ hmem k' c p
                    omega
                  · intro i' hi' k' z' arr2 T fz' p1 p2
                    rw [e1] at p1
                    obtain ⟨rfl, rfl⟩ : k = k' ∧ zz = z' := by simpa using p1
                    rw [g1] at p2
                    simp at p2
                    obtain ⟨rfl, rfl, rfl⟩ := p2
                    have : (i' + 1) * m ≤ xs.length * m := Nat.mul_le_mul_right _ (by omega)
                    rw [Nat.add_mul, Nat.one_mul] at this
                    rw [own_all, hlist, List.append_assoc, List.drop_append_of_le_length (by omega), List.take_append_of_le_length (by rw [List.length_drop]; omega), List.drop_take, List.take_take, Nat.min_eq_left (by omega)]
                  · rw [own_all, hlist, List.append_assoc, List.drop_append, List.drop_of_length_le (by omega), hl0, Nat.sub_self, List.nil_append, List.drop_zero, List.take_append_of_le_length (by omega), List.take_of_length_le (by omega)]
                    exact hcs.agree ha2 hcn
          · exact h.elim
        · exact h.elim
      · exact h.elim
  · exact h.elim
end
end Go.Vm

namespace Go.Vm
open Go.RowKit
section
variable (S : Seat)
/-- clear, of a slice -/
def clearA (T : TypeId) (s : AV) (H : Heap) (K : AV → Heap → Prop) : Prop :=
  match S.P.underlying T with
  | some (.slice e) => match S.hint e with
    | some ⟨_, E⟩ => match s with
      | .nils => K (.tup []) H
      | .sl b m i n => match getE H.ents b with
        | some ⟨_, true, c⟩ => ∃ xs, (c = .arr E xs ∧ m = E.m) ∧ match i with
          | none => (0 ≤ n ∧ n ≤ xs.length) ∧ setH H b (.arr E (over xs 0 (List.replicate n.toNat E.d))) fun H => K (.tup []) H
          | some i => (0 ≤ i ∧ 0 ≤ n ∧ i + n ≤ xs.length) ∧ setH H b (.arr E (over xs i.toNat (List.replicate n.toNat E.d))) fun H => K (.tup []) H
        | _ => False
      | _ => False
    | none => False
  | _ => False
end
section
variable {S : Seat} {ρ ρ' : Lay} {H : Heap} {w w' : World} {N N' : Nat}

theorem Vals.drop {α : Type} {E : Enc α} {ys : List α} {rs : List Value} (h : Vals ρ N E ys rs) (n : Nat) : Vals ρ N E (ys.drop n) (rs.drop (n * E.m)) := by
  refine ⟨by rw [List.length_drop, List.length_drop, h.1, Nat.sub_mul], fun t ht => ?_⟩
  rw [List.length_drop] at ht
  have e1 : (ys.drop n).getD t E.d = ys.getD (n + t) E.d := by simp only [List.getD_eq_getElem?_getD, List.getElem?_drop]
  rw [e1, List.drop_drop, ← Nat.add_mul]
  exact h.2 (n + t) (by omega)

theorem over_lie {T : TypeId} {α : Type} {E : Enc α} (hE : EncOk S.P T E) {xs ys : List α} {arr arr' : Array Value} {news : List Value} {b : Blk} {i : Nat} (h : CellsLie ρ N arr b (.arr E xs)) (hv : Vals ρ N E ys news) (hi : i + ys.length ≤ xs.length)
    (ha : arr'.toList = arr.toList.take (i * E.m) ++ (news ++ arr.toList.drop (i * E.m + news.length))) (b' : Blk) : CellsLie ρ N arr' b' (.arr E (over xs i ys)) := by
  have hx := lie_vals hE h
  have hsz := h.1
  have hA := hx.take i
  have hB := hx.drop (i + ys.length)
  have hm : i * E.m + ys.length * E.m ≤ xs.length * E.m := by rw [← Nat.add_mul]; exact Nat.mul_le_mul_right _ hi
  refine (Vals.append hE hA (Vals.append hE hv hB)).lie hE (rest := arr.toList.drop (xs.length * E.m)) ?_ b'
  rw [ha, hv.1, Nat.add_mul, List.take_take, Nat.min_eq_left (by omega), List.append_assoc, List.append_assoc]
  congr 2
  rw [List.drop_take]
  have e : arr.toList.drop (xs.length * E.m) = (arr.toList.drop (i * E.m + ys.length * E.m)).drop (xs.length * E.m - (i * E.m + ys.length * E.m)) := by
    rw [List.drop_drop]; congr 1; omega
  rw [e, List.take_append_drop]

theorem over_length {α : Type} {xs ys : List α} {i : Nat} (h : i + ys.length ≤ xs.length) : (over xs i ys).length = xs.length := by
  simp only [over, List.length_append, List.length_take, List.length_drop]
  omega

/-- cells written into a range of a block -/
theorem range_write {e : TypeId} {α : Type} {E : Enc α} (hE : EncOk S.P e E) (hH : HRel S ρ H w) {b b0 : Blk} {xs ys : List α} (hg : getE H.ents b = some ⟨b0, true, .arr E xs⟩) {i : Nat} {n : Int} {io : Option Int} {r : Value}
    (hi : (i : Int) = io.getD 0) (hle : i + ys.length ≤ xs.length) {news : List Value} (hv : Vals ρ H.next E ys news) (hr : VRel ρ (.sl b E.m io n) r) (hny : ys.length ≤ n.toNat) :
    ∃ base cap w', r = .slice base n.toNat cap ∧ (match base with | none => ys = [] ∧ w' = w | some a => (storeCells a news).run S.P w = .ok () w') ∧ After S ρ H w ρ ⟨setE H.ents b (.arr E (over xs i ys)), H.next⟩ w' := by
  obtain ⟨hmem, hkey⟩ := getE_mem hg
  simp only at hkey
  subst hkey
  have hhold := (hH.holds _ hmem).arr
  have hlies := hhold.1
  -- nothing written
  have idle : ys = [] → After S ρ H w ρ ⟨setE H.ents b0 (.arr E (over xs i ys)), H.next⟩ w := by
    rintro rfl
    have ho : over xs i ([] : List α) = xs := by simp [over]
    rw [ho]
    exact hH.update (P := fun _ _ => True) hg rfl (hH.enc _ hmem) (fun _ _ q => absurd trivial q) (.refl _ _) hhold (Nat.le_refl _) rfl rfl rfl
  rcases hr with ⟨e1, e2, e3, base, hra⟩ | ⟨k, zz, cap, off, e1, e2, e3, e4, e5, e6, e7, hra⟩
  · have hy0 : ys = [] := List.eq_nil_of_length_eq_zero (by rw [e2] at hny; simpa using hny)
    subst e2
    have hnews : news = [] := List.eq_nil_of_length_eq_zero (by rw [hv.1, hy0]; simp)
    refine ⟨base, 0, w, hra, ?_, idle hy0⟩
    cases base with
    | none => exact ⟨hy0, rfl⟩
    | some a => rw [hnews]; simp [storeCells]
  · simp only [Lies, e1] at hlies
    obtain ⟨arr0, TT, fz, g1, g2, g3, g4⟩ := hlies
    have g3 := g3 trivial
    have hsz2 := own_size g2
    by_cases hy0 : ys = []
    · have hnews : news = [] := List.eq_nil_of_length_eq_zero (by rw [hv.1, hy0]; simp)
      exact ⟨_, cap, w, hra, by rw [hnews]; simp [storeCells], idle hy0⟩
    · have hypos : 0 < ys.length := List.length_pos_iff.2 hy0
      have hoff : off = zz.1 + i * E.m := by
        rcases e7 with q | q
        · omega
        · rw [q, ← hi, Int.toNat_natCast]
      subst hoff
      have hsz := g4.1
      have hfit : i * E.m + ys.length * E.m ≤ xs.length * E.m := by rw [← Nat.add_mul]; exact Nat.mul_le_mul_right _ hle
      have hnl := hv.1
      obtain ⟨w', arr0', r1, r2, hsize0, r3', hkept, r5, r6, r7, r8⟩ := room_store (S := S) (n := i * E.m) (news := news) g1 g2 g3 (by omega) (hv.one hE)
      have hadd : (Addr.add ⟨k, zz.1, none⟩ (i * E.m)) = ⟨k, zz.1 + i * E.m, none⟩ := by
        simp only [Addr.add]; split
        · rename_i q; simp [q]
        · simp
      rw [hadd] at r1
      have hl : Lies ρ H.next w' true b0 (.arr E (over xs i ys)) := by
        simp only [Lies, e1]
        exact ⟨arr0', TT, fz, r2, by omega, fun _ => by unfold FzOk at g3 ⊢; rw [hsize0]; exact g3, over_lie hE g4 hv hle r3' b0⟩
      exact ⟨_, cap, w', hra, r1, hH.update hg rfl (hH.enc _ hmem) (fun k' c q => hhold.2 k' c (by have q := Classical.not_not.1 q; exact ⟨zz, by rw [q.1]; exact e1, q.2⟩)) hkept ⟨hl, hhold.2⟩ (by omega) r6 r7 r8⟩

theorem copy_sound (hS : SeatOk S) {T U ty : TypeId} {a x : AV} {ra rx : Value} {K : AV → Heap → Prop} (hH : HRel S ρ H w) (ha : VRel ρ a ra) (hx : VRel ρ x rx)
    (h : copyA S T U a x H K) : AppOp S ρ H w (Builtin.copy_ #[T, U] ty #[ra, rx]) K := by
  unfold copyA at h
  split at h
  · rename_i e hT
    split at h
    · rename_i α E hh
      have hE : EncOk S.P e E := hS.hint _ _ hh
      obtain ⟨i, z, hi, him, hiz, hby⟩ := info_of hE
      obtain ⟨ys, rs, h', hv, hU, hlen, hmax, hfirst⟩ := src_sound (N := H.next) hE hH h hx
      clear h
      have h := h'
      clear h'
      have hsz : (sizeOf e).run S.P w = .ok E.m w := by simp [sizeOf, typeInfo, hi, him]
      split at h
      · obtain ⟨b, hb⟩ := ha
        refine ⟨_, .int .i64 0, H, ρ, w, ?_, h, rfl, trivial, .refl hH⟩
        have := hfirst 0 w rfl (by omega)
        simp only [Nat.zero_mul, List.take_zero] at this
        cases b <;> simp [Builtin.copy_, run_und hT, hb, hlen, hsz, this, storeCells, goInt]
      · rename_i b m io n
        split at h
        · rename_i b' c hg
          obtain ⟨xs, ⟨rfl, rfl⟩, h⟩ := h
          have hp : ∃ i' : Nat, (i' : Int) = io.getD 0 ∧ 0 ≤ n ∧ i' + n.toNat ≤ xs.length ∧ K (.int .i64 (min (ys.length : Int) n)) ⟨setE H.ents b (.arr E (over xs i' (ys.take n.toNat))), H.next⟩ := by
            split at h
            · obtain ⟨⟨h1, h2⟩, h⟩ := h
              exact ⟨0, rfl, h1, by omega, setH_out h⟩
            · rename_i i0
              obtain ⟨⟨h1, h2, h3⟩, h⟩ := h
              exact ⟨i0.toNat, by simp; omega, h2, by omega, setH_out h⟩
          obtain ⟨i', hi', hn, hle, hK⟩ := hp
          have hlt : (ys.take n.toNat).length ≤ n.toNat := by simp; omega
          obtain ⟨base, cap, w', hra, hst, haf⟩ := range_write hE hH hg (i := i') (ys := ys.take n.toNat) (news := (rs.take (n.toNat * E.m))) hi' (by omega) (hv.take _) ha hlt
          have hfst := hfirst (Nat.min ys.length n.toNat) w rfl (Nat.min_le_left _ _)
          have hnews : rs.take (Nat.min ys.length n.toNat * E.m) = rs.take (n.toNat * E.m) := by
            rw [List.take_eq_take_iff, hv.1, show Nat.min ys.length n.toNat = min ys.length n.toNat from rfl, ← Nat.mul_min_mul_right]
            omega
          rw [hnews] at hfst
          have hret : goInt ((Nat.min ys.length n.toNat : Nat) : Int) = .int .i64 (min (ys.length : Int) n) := by
            unfold goInt; congr 1; rw [show Nat.min ys.length n.toNat = min ys.length n.toNat from rfl]; omega
          refine ⟨_, _, _, ρ, w', ?_, hK, rfl, trivial, haf⟩
          cases base with
          | none =>
            obtain ⟨_, rfl⟩ := hst
            simp only [Builtin.copy_, List.getElem?_toArray, List.getElem?_cons_zero, List.getElem?_cons_succ, Sem.run_bind, run_und hT, Result.andThen_ok, hra, hlen, hsz, hfst, Sem.run_pure, hret]
          | some a =>
            simp only [Builtin.copy_, List.getElem?_toArray, List.getElem?_cons_zero, List.getElem?_cons_succ, Sem.run_bind, run_und hT, Result.andThen_ok, hra, hlen, hsz, hfst, Sem.run_pure, hret]
            have hst : (storeCells a (rs.take (n.toNat * E.m))).run S.P w = .ok () w' := hst
            simp only [hst, Result.andThen_ok, Sem.run_pure]
        · exact h.elim
      · exact h.elim
    · exact h.elim
  · exact h.elim

theorem clear_sound (hS : SeatOk S) {T ty : TypeId} {a : AV} {ra : Value} {K : AV → Heap → Prop} (hH : HRel S ρ H w) (ha : VRel ρ a ra)
    (h : clearA S T a H K) : AppOp S ρ H w (Builtin.clear_ #[T] ty #[ra]) K := by
  unfold clearA at h
  split at h
  · rename_i e hT
    split at h
    · rename_i α E hh
      have hE : EncOk S.P e E := hS.hint _ _ hh
      obtain ⟨i, z, hi, him, hiz, hby⟩ := info_of hE
      have hzv : (zeroValue e).run S.P w = .ok z w := by simp [zeroValue, typeInfo, hi, hiz]
      split at h
      · obtain ⟨b, hb⟩ := ha
        refine ⟨_, .tuple #[], H, ρ, w, ?_, h, ⟨[], rfl, rfl⟩, trivial, .refl hH⟩
        cases b <;> simp [Builtin.clear_, run_und hT, hb]
      · rename_i b m io n
        split at h
        · rename_i b' c hg
          obtain ⟨xs, ⟨rfl, rfl⟩, h⟩ := h
          have hp : ∃ i' : Nat, (i' : Int) = io.getD 0 ∧ 0 ≤ n ∧ i' + n.toNat ≤ xs.length ∧ K (.tup []) ⟨setE H.ents b (.arr E (over xs i' (List.replicate n.toNat E.d))), H.next⟩ := by
            split at h
            · obtain ⟨⟨h1, h2⟩, h⟩ := h
              exact ⟨0, rfl, h1, by omega, setH_out h⟩
            · rename_i i0
              obtain ⟨⟨h1, h2, h3⟩, h⟩ := h
              exact ⟨i0.toNat, by simp; omega, h2, by omega, setH_out h⟩
          obtain ⟨i', hi', hn, hle, hK⟩ := hp
          obtain ⟨base, cap, w', hra, hst, haf⟩ := range_write hE hH hg (i := i') (ys := List.replicate n.toNat E.d) hi' (by simp; omega) (vals_zero hE hi hiz n.toNat) ha (by simp)
          refine ⟨_, .tuple #[], _, ρ, w', ?_, hK, ⟨[], rfl, rfl⟩, trivial, haf⟩
          cases base with
          | none =>
            obtain ⟨_, rfl⟩ := hst
            simp [Builtin.clear_, run_und hT, hra]
          | some a =>
            cases hnn : n.toNat with
            | zero =>
              rw [hnn] at hst hra
              have hst : (storeCells a (Builtin.zeroCells z.cells 0).toList).run S.P w = .ok () w' := hst
              simp [Builtin.zeroCells, storeCells] at hst
              subst hst
              simp [Builtin.clear_, run_und hT, hra]
            | succ k =>
              rw [hnn] at hst hra
              have hst : (storeCells a (Builtin.zeroCells z.cells (k + 1)).toList).run S.P w = .ok () w' := hst
              simp [Builtin.clear_, run_und hT, hra, hzv, hst]
        · exact h.elim
      · exact h.elim
    · exact h.elim
  · exact h.elim
end
end Go.Vm

namespace Go.Vm
open Go.RowKit
section
variable (S : Seat)
/-- a conversion of bytes to their own type -/
def convSlA (s d : TypeId) (x : AV) (H : Heap) (K : AV → Heap → Prop) : Prop :=
  match S.P.underlying s with
  | some (.slice _) => match S.P.underlying d with
    | some (.slice e) => match S.P.underlying e with
      | some (.int .u8) => match s == d with
        | true => match x with
          | .sl b m i n => match getE H.ents b with
            | some ⟨_, true, .arr E xs⟩ => match Nat.ble 1 m with
              | true => 0 < n ∧ setH H b (.arr E xs) fun H => K (.sl b m i n) H
              | false => False
            | _ => False
          | _ => False
        | false => False
      | _ => False
    | _ => False
  | _ => False
end
section
variable {S : Seat} {ρ ρ' : Lay} {H : Heap} {w w' : World} {N N' : Nat}
theorem convSl_sound {s d : TypeId} {x : AV} {rx : Value} {K : AV → Heap → Prop} (hH : HRel S ρ H w) (hx : VRel ρ x rx) (hl : x.lt H.next) (h : convSlA S s d x H K) :
    AppOp S ρ H w (convert s d rx) K := by
  unfold convSlA at h
  split at h
  · rename_i es hs
    split at h
    · rename_i e hd
      split at h
      · rename_i he
        split at h
        · rename_i hsd
          split at h
          · rename_i b m i n
            split at h
            · rename_i b' α E xs hg
              split at h
              rotate_left
              · exact h.elim
              rename_i hm1
              obtain ⟨hn, h⟩ := h
              have hK := setH_out h
              obtain ⟨hmem, hkey⟩ := getE_mem hg
              simp only at hkey
              subst hkey
              rcases hx with ⟨_, e2, _⟩ | ⟨k, zz, cap, off, e1, e2, e3, e4, e5, e6, e7, hra⟩
              · omega
              · have hhold := (hH.holds _ hmem).arr
                have hlies := hhold.1
                simp only [Lies, e1] at hlies
                obtain ⟨arr, TT, fz, g1, g2, g3, g4⟩ := hlies
                have hk : k < w.heap.size := (Array.getElem?_eq_some_iff.1 g1).1
                have hsh : w.shape? k = some (TT, arr.size) := by simp [World.shape?, g1]
                have hrun : (convert s d rx).run S.P w = .ok rx (w.freeze ⟨k, arr.size, none⟩ 1) := by
                  rw [hra]
                  simp [convert, run_und hs, run_und hd, run_und he, hsd, markStringish, hsh]
                have hfz : ∃ fz2 : Nat × Nat, (w.freeze ⟨k, arr.size, none⟩ 1).heap[k]? = some (.cells arr TT fz2) ∧ arr.size ≤ fz2.1 := by
                  have g3 := g3 trivial
                  unfold FzOk at g3
                  unfold World.freeze
                  rw [if_neg (by decide)]
                  obtain ⟨lo, hi⟩ := fz
                  simp only at g3
                  refine ⟨if lo == hi then (arr.size, arr.size + 1) else (min lo arr.size, max hi (arr.size + 1)), ?_, ?_⟩
                  · simp [Array.getElem?_modify, g1]
                  · split
                    · exact Nat.le_refl _
                    · rename_i hne
                      have hne : ¬ lo = hi := by simpa using hne
                      simp only
                      omega
                obtain ⟨fz2, hfz, hfz2⟩ := hfz
                have hoth : ∀ j, j ≠ k → (w.freeze ⟨k, arr.size, none⟩ 1).heap[j]? = w.heap[j]? := by
                  intro j hj
                  unfold World.freeze
                  rw [if_neg (by decide)]
                  simp [Array.getElem?_modify, Ne.symm hj]
                have hlies' : Lies ρ H.next (w.freeze ⟨k, arr.size, none⟩ 1) true b' (.arr E xs) := by
                  simp only [Lies, e1]
                  exact ⟨arr, TT, fz2, hfz, g2, fun _ => .inr hfz2, g4⟩
                have hsz : (w.freeze ⟨k, arr.size, none⟩ 1).heap.size = w.heap.size := by
                  unfold World.freeze
                  rw [if_neg (by decide)]
                  simp
                have hpos : 0 < zz.2 := by
                  have h1 : 0 < cap := by omega
                  have h2 : 0 < cap * m := Nat.mul_pos h1 (Nat.le_of_ble_eq_true hm1)
                  omega
                have haf := hH.update (c := .arr E xs) hg rfl (hH.enc _ hmem) (fun k' c q => hhold.2 k' c (by have q := Classical.not_not.1 q; exact ⟨zz, by rw [q.1]; exact e1, q.2⟩)) (Kept.one g1 hfz rfl (fun _ => .inr hfz2) hpos (fun _ _ => rfl) hoth) ⟨hlies', hhold.2⟩ (by omega) (by unfold World.freeze; rw [if_neg (by decide)]) (by unfold World.freeze; rw [if_neg (by decide)]) (by unfold World.freeze; rw [if_neg (by decide)])
                refine ⟨_, rx, _, ρ, _, hrun, hK, .inr ⟨k, zz, cap, off, e1, e2, e3, e4, e5, e6, e7, hra⟩, hl, haf⟩
            · exact h.elim
          · exact h.elim
        · exact h.elim
      · exact h.elim
    · exact h.elim
  · exact h.elim
end
end Go.Vm
