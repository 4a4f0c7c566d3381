/- An abstract machine over the loaded code: what its values and contents say of the machine's own. -/
import Derived.Test.YtfndendpfahbcaaGreatDoorVm1
import Derived.WalkKit
import Derived.Laws.BitsLemmas
set_option linter.unusedSimpArgs false
set_option linter.unusedVariables false
namespace Go.Vm
open Go.RowKit

/-- where a block lies: in which of the machine's own, from which cell on, and how many cells are its own -/
abbrev Loc := Blk → Option (Nat × (Nat × Nat))

mutual
def VRel (ρ : Loc) : AV → Value → Prop
  | .undef, _ => True
  | .tt, r => r = .bool true
  | .ff, r => r = .bool false
  | .prop p, r => ∃ b, r = .bool b ∧ (b = true ↔ p)
  | .int k n, r => r = .int k n
  | .str s, r => ∃ a : ByteArray, r = .string a ∧ s = bytesL a ∧ a.size ≤ 9223372036854775807
  | .nilp, r => r = .pointer none
  | .ptr b m i j, r => ∃ k z, ρ b = some (k, z) ∧ 0 ≤ i.getD 0 ∧ r = .pointer (some ⟨k, z.1 + ((i.getD 0).toNat * m + j), none⟩)
  | .nils, r => ∃ a, r = .slice a 0 0
  | .sl b m i n, r => (ρ b = none ∧ n = 0 ∧ i.getD 0 = 0 ∧ ∃ a, r = .slice a 0 0) ∨
      ∃ k z cap off, ρ b = some (k, z) ∧ 0 ≤ i.getD 0 ∧ 0 ≤ n ∧ n.toNat ≤ cap ∧ cap ≤ 9223372036854775807 ∧
        (i.getD 0).toNat * m + cap * m ≤ z.2 ∧ (cap = 0 ∨ off = z.1 + (i.getD 0).toNat * m) ∧ r = .slice (some ⟨k, off, none⟩) n.toNat cap
  | .nilf, r => r = .nilFunc
  | .fn f cap, r => ∃ cs : List Value, r = .func (.func f) #[] cs.toArray ∧ VRels ρ cap cs
  | .niface, r => r = .nilIface
  | .agg vs, r => ∃ cs : List Value, r = .agg cs.toArray ∧ VRels ρ vs cs
  | .tup vs, r => ∃ cs : List Value, r = .tuple cs.toArray ∧ VRels ρ vs cs
def VRels (ρ : Loc) : List AV → List Value → Prop
  | [], l => l = []
  | v :: vs, l => ∃ r rs, l = r :: rs ∧ VRel ρ v r ∧ VRels ρ vs rs
end

def Blk.root : Blk → Option Nat
  | .loc n => some n
  | .glob _ => none
  | .sub b _ _ => b.root
/-- its number is below N -/
def Blk.lt (N : Nat) (b : Blk) : Prop := ∀ n, b.root = some n → n < N

mutual
def AV.lt (N : Nat) : AV → Prop
  | .ptr b _ _ _ => b.lt N
  | .sl b _ _ _ => b.lt N
  | .fn _ cap => AV.lts N cap
  | .agg vs => AV.lts N vs
  | .tup vs => AV.lts N vs
  | _ => True
def AV.lts (N : Nat) : List AV → Prop
  | [] => True
  | v :: r => AV.lt N v ∧ AV.lts N r
end

def Agree (N : Nat) (ρ ρ' : Loc) : Prop := ∀ b : Blk, b.lt N → ρ' b = ρ b

theorem Agree.refl (N : Nat) (ρ : Loc) : Agree N ρ ρ := fun _ _ => rfl
theorem Agree.trans {N N' : Nat} {ρ ρ' ρ'' : Loc} (h : Agree N ρ ρ') (h' : Agree N' ρ' ρ'') (hN : N ≤ N') : Agree N ρ ρ'' :=
  fun b hb => (h' b fun n hn => Nat.lt_of_lt_of_le (hb n hn) hN).trans (h b hb)
theorem Agree.mono {N N' : Nat} {ρ ρ' : Loc} (h : Agree N' ρ ρ') (hN : N ≤ N') : Agree N ρ ρ' :=
  fun b hb => h b fun n hn => Nat.lt_of_lt_of_le (hb n hn) hN

theorem Blk.lt.mono {N N' : Nat} {b : Blk} (h : b.lt N) (hN : N ≤ N') : b.lt N' := fun n hn => Nat.lt_of_lt_of_le (h n hn) hN

mutual
theorem VRel.agree {N : Nat} {ρ ρ' : Loc} (h : Agree N ρ ρ') : ∀ {v : AV} {r : Value}, v.lt N → VRel ρ v r → VRel ρ' v r
  | .undef, _, _, hv => trivial
  | .tt, _, _, hv => hv
  | .ff, _, _, hv => hv
  | .prop _, _, _, hv => hv
  | .int _ _, _, _, hv => hv
  | .str _, _, _, hv => hv
  | .nilp, _, _, hv => hv
  | .ptr b _ _ _, _, hl, hv => by
    simp only [VRel] at hv ⊢
    rw [h b hl]; exact hv
  | .nils, _, _, hv => hv
  | .sl b _ _ _, _, hl, hv => by
    simp only [VRel] at hv ⊢
    rw [h b hl]; exact hv
  | .nilf, _, _, hv => hv
  | .fn _ _, _, hl, hv => by
    obtain ⟨cs, e, hc⟩ := hv
    exact ⟨cs, e, VRels.agree h hl hc⟩
  | .niface, _, _, hv => hv
  | .agg _, _, hl, hv => by
    obtain ⟨cs, e, hc⟩ := hv
    exact ⟨cs, e, VRels.agree h hl hc⟩
  | .tup _, _, hl, hv => by
    obtain ⟨cs, e, hc⟩ := hv
    exact ⟨cs, e, VRels.agree h hl hc⟩
theorem VRels.agree {N : Nat} {ρ ρ' : Loc} (h : Agree N ρ ρ') : ∀ {vs : List AV} {rs : List Value}, AV.lts N vs → VRels ρ vs rs → VRels ρ' vs rs
  | [], _, _, hv => hv
  | _ :: _, _, hl, hv => by
    obtain ⟨r, rs, e, h1, h2⟩ := hv
    exact ⟨r, rs, e, VRel.agree h hl.1 h1, VRels.agree h hl.2 h2⟩
end

mutual
theorem AV.lt.mono {N N' : Nat} (hN : N ≤ N') : ∀ {v : AV}, v.lt N → v.lt N'
  | .undef, _ | .tt, _ | .ff, _ | .prop _, _ | .int _ _, _ | .str _, _ | .nilp, _ | .nils, _ | .nilf, _ | .niface, _ => trivial
  | .ptr _ _ _ _, h => Blk.lt.mono h hN
  | .sl _ _ _ _, h => Blk.lt.mono h hN
  | .fn _ _, h => AV.lts.mono hN h
  | .agg _, h => AV.lts.mono hN h
  | .tup _, h => AV.lts.mono hN h
theorem AV.lts.mono {N N' : Nat} (hN : N ≤ N') : ∀ {vs : List AV}, AV.lts N vs → AV.lts N' vs
  | [], _ => trivial
  | _ :: _, h => ⟨AV.lt.mono hN h.1, AV.lts.mono hN h.2⟩
end

/-! the written-out forms say the same -/
theorem natGo_out : ∀ {l : List Nat} {n : Nat} {K : Nat → Prop}, natGo l n K → K n
  | [], _, _, h => h
  | x :: r, n, K, h => by
    unfold natGo at h
    split at h
    · rename_i e; rw [← Nat.eq_of_beq_eq_true e]; exact h
    · exact natGo_out h
theorem natK_out {n : Nat} {K : Nat → Prop} (h : natK n K) : K n := natGo_out h
theorem blkK_out : ∀ {b : Blk} {K : Blk → Prop}, blkK b K → K b
  | .loc _, K, h => natK_out (K := fun n => K (.loc n)) h
  | .glob _, _, h => h
  | .sub b i j, K, h => by
    have h1 := blkK_out (b := b) h
    exact natK_out (K := fun j => K (.sub b i j)) h1
theorem offK_out {i : Option Int} {K : Option Int → Prop} (h : offK i K) : K i := by cases i <;> exact h
mutual
theorem forceV_out : ∀ {v : AV} {K : AV → Prop}, forceV v K → K v
  | .undef, _, h | .tt, _, h | .ff, _, h | .prop _, _, h | .int _ _, _, h | .str _, _, h | .nilp, _, h | .nils, _, h | .nilf, _, h | .niface, _, h => h
  | .ptr b m i j, K, h => by
    have h1 := blkK_out h
    have h2 := natK_out h1
    have h3 := offK_out h2
    exact natK_out (K := fun j => K (.ptr b m i j)) h3
  | .sl b m i n, K, h => by
    have h1 := blkK_out h
    have h2 := natK_out h1
    exact offK_out (K := fun i => K (.sl b m i n)) h2
  | .fn f c, K, h => forceL_out (K := fun c => K (.fn f c)) h
  | .agg c, K, h => forceL_out (K := fun c => K (.agg c)) h
  | .tup c, K, h => forceL_out (K := fun c => K (.tup c)) h
theorem forceL_out : ∀ {l : List AV} {K : List AV → Prop}, forceL l K → K l
  | [], _, h => h
  | v :: r, K, h => by
    have h1 := forceV_out (K := fun v => forceL r fun r => K (v :: r)) h
    exact forceL_out (K := fun r => K (v :: r)) h1
end
theorem Cont.force_out {c : Cont} {K : Cont → Prop} (h : c.force K) : K c := by
  cases c with
  | raw vs => exact forceL_out (K := fun vs => K (.raw vs)) h
  | arr E xs => exact h
  | nest m d g s f xs => exact h

theorem pushK_out {H : Heap} {c : Cont} {K : Nat → Heap → Prop} (h : pushK H c K) : K H.next ⟨⟨.loc H.next, true, c⟩ :: H.ents, H.next + 1⟩ := by
  obtain ⟨l, nx⟩ := H
  have h : c.force fun c => natK nx fun n => natK (n + 1) fun n' => K n ⟨⟨.loc n, true, c⟩ :: l, n'⟩ := h
  have h := Cont.force_out h
  have h := natK_out h
  exact natK_out (K := fun n' => K nx ⟨_, n'⟩) h

theorem VRels.length {ρ : Loc} : ∀ {vs : List AV} {rs : List Value}, VRels ρ vs rs → rs.length = vs.length
  | [], _, h => by rw [h]; rfl
  | _ :: _, _, h => by
    obtain ⟨r, rs, rfl, _, h2⟩ := h
    simp [VRels.length h2]
theorem VRels.get {ρ : Loc} : ∀ {vs : List AV} {rs : List Value} {j : Nat} {v : AV}, VRels ρ vs rs → vs[j]? = some v → ∃ r, rs[j]? = some r ∧ VRel ρ v r
  | [], _, _, _, _, h => by simp at h
  | _ :: _, _, 0, v, h, e => by
    obtain ⟨r, rs, rfl, h1, h2⟩ := h
    simp at e; subst e
    exact ⟨r, rfl, h1⟩
  | _ :: _, _, j + 1, v, h, e => by
    obtain ⟨r, rs, rfl, h1, h2⟩ := h
    simp at e
    obtain ⟨r', e', h'⟩ := VRels.get h2 e
    exact ⟨r', by simpa using e', h'⟩
theorem VRels.drop {ρ : Loc} : ∀ {vs : List AV} {rs : List Value} (j : Nat), VRels ρ vs rs → VRels ρ (vs.drop j) (rs.drop j)
  | _, _, 0, h => by simpa using h
  | [], _, _ + 1, h => by rw [h]; simp [VRels]
  | _ :: _, _, j + 1, h => by
    obtain ⟨r, rs, rfl, h1, h2⟩ := h
    simpa using VRels.drop j h2
theorem VRels.take {ρ : Loc} : ∀ {vs : List AV} {rs : List Value} (j : Nat), VRels ρ vs rs → VRels ρ (vs.take j) (rs.take j)
  | _, _, 0, h => by simp [VRels]
  | [], _, _ + 1, h => by rw [h]; simp [VRels]
  | v :: vs, _, j + 1, h => by
    obtain ⟨r, rs, rfl, h1, h2⟩ := h
    have h3 : VRels ρ (vs.take j) (rs.take j) := VRels.take j h2
    exact ⟨r, rs.take j, rfl, h1, h3⟩
theorem VRels.append {ρ : Loc} : ∀ {vs vs' : List AV} {rs rs' : List Value}, VRels ρ vs rs → VRels ρ vs' rs' → VRels ρ (vs ++ vs') (rs ++ rs')
  | [], _, _, _, h, h' => by rw [h]; exact h'
  | _ :: _, _, _, _, h, h' => by
    obtain ⟨r, rs, rfl, h1, h2⟩ := h
    exact ⟨r, _, rfl, h1, VRels.append h2 h'⟩
theorem VRels.snoc_nil {ρ : Loc} {v : AV} {r : Value} (h : VRel ρ v r) : VRels ρ [v] [r] := ⟨r, [], rfl, h, rfl⟩

theorem cst_rel (ρ : Loc) (v : Value) : VRel ρ (cst v) v := by
  unfold cst
  split
  · rfl
  · rfl
  · rfl
  · split
    · rename_i h; exact ⟨_, rfl, rfl, Nat.le_of_ble_eq_true h⟩
    · trivial
  · rfl
  · exact ⟨_, rfl⟩
  · rfl
  · rfl
  · trivial
theorem bytesL_length (s : ByteArray) : (bytesL s).length = s.size := by
  unfold bytesL
  rw [List.length_map]
  rfl
end Go.Vm
