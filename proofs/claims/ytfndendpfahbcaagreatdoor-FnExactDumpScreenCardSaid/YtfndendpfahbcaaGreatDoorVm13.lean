/- An abstract machine over the loaded code: append and copy do what is said of them. -/
import Derived.Test.YtfndendpfahbcaaGreatDoorVm12
set_option linter.unusedSimpArgs false
set_option linter.unusedVariables false
namespace Go.Vm
open Go.RowKit
section
variable {S : Seat} {ρ ρ' : Loc} {H : Heap} {w w' : World} {N N' : Nat}

theorem info_of {e : TypeId} {α : Type} {E : Enc α} (hE : EncOk S.P e E) : ∃ i z, S.P.info? e = some i ∧ i.size = E.m ∧ i.zero = some z ∧ bytesA S e = i.bytes := by
  obtain ⟨zl, hz, _⟩ := hE.zero
  have hm := hE.m
  cases hi : S.P.info? e with
  | none => rw [hi] at hm; simp at hm
  | some i =>
    rw [hi] at hm hz
    simp at hm hz
    obtain ⟨z, hz, _⟩ := hz
    exact ⟨i, z, rfl, hm, hz, by simp [bytesA, hi]⟩

set_option maxHeartbeats 1000000 in
/-- append into what room there is -/
theorem append_room {T U ty e : TypeId} {i : TypeInfo} {s x : Value} {base : Option Addr} {n cap m : Nat} {news : List Value} (hT : S.P.underlying T = some (.slice e)) (hU : (∃ el, S.P.underlying U = some (.slice el)) ∨ S.P.underlying U = some .string) (hi : S.P.info? e = some i)
    (hs : s = .slice base n cap) (hl : (Builtin.lenOf x).run S.P w = .ok m w) (hf : (Builtin.firstCells i.size m x).run S.P w = .ok news.toArray w) (hroom : n + m ≤ cap) {w'' : World}
    (hst : match base with | none => w'' = w | some a => (storeCells (a.add (n * i.size)) news).run S.P w = .ok () w'') :
    (Builtin.append_ #[T, U] ty #[s, x]).run S.P w = .ok (.slice base (n + m) cap) w'' := by
  subst hs
  have hsz : (sizeOf e).run S.P w = .ok i.size w := by simp [sizeOf, typeInfo, hi]
  rcases hU with ⟨el, hu⟩ | hu
  · cases base with
    | none =>
      simp only at hst
      subst hst
      simp [Builtin.append_, run_und hT, run_und hu, hsz, hl, hroom, hf]
    | some a => simp [Builtin.append_, run_und hT, run_und hu, hsz, hl, hroom, hf, hst]
  · cases base with
    | none =>
      simp only at hst
      subst hst
      simp [Builtin.append_, run_und hT, run_und hu, hsz, hl, hroom, hf]
    | some a => simp [Builtin.append_, run_und hT, run_und hu, hsz, hl, hroom, hf, hst]

set_option maxHeartbeats 1000000 in
/-- append where there is none -/
theorem append_grow {T U ty e : TypeId} {i : TypeInfo} {z : Value} {s x : Value} {base : Option Addr} {n cap m : Nat} {olds news : List Value} (hT : S.P.underlying T = some (.slice e)) (hU : (∃ el, S.P.underlying U = some (.slice el)) ∨ S.P.underlying U = some .string) (hi : S.P.info? e = some i) (hz : i.zero = some z)
    (hs : s = .slice base n cap) (hl : (Builtin.lenOf x).run S.P w = .ok m w) (hf : (Builtin.firstCells i.size m x).run S.P w.drew = .ok news.toArray w.drew) (ho : (Builtin.firstCells i.size n s).run S.P w.drew = .ok olds.toArray w.drew)
    (hroom : cap < n + m) (hle : n ≤ cap) (hb : (n + m) * i.bytes ≤ 140737488355328) (h63 : n + m ≤ 140737488355328) :
    (Builtin.append_ #[T, U] ty #[s, x]).run S.P w =
      .ok (.slice (some ⟨w.heap.size, 0, none⟩) (n + m) (grownCap w (n + m) cap e)) (w.drew.alloc (.cells (olds ++ news ++ (Builtin.zeroCells z.cells (grownCap w (n + m) cap e - (n + m))).toList).toArray e)) := by
  subst hs
  have hsz : (sizeOf e).run S.P w = .ok i.size w := by simp [sizeOf, typeInfo, hi]
  have hroom' : ¬ (n + m ≤ cap) := by omega
  have h63' : ¬ (9223372036854775807 < ((n : Int) + (m : Int))) := by omega
  have h48 := growslice_fits hroom hb
  have h48' : ¬ (281474976710656 < Builtin.nextslicecap (n + m) cap * i.bytes) := by omega
  rcases hU with ⟨el, hu⟩ | hu
  · simp [Builtin.append_, run_und hT, run_und hu, sizeOf, typeInfo, zeroValue, hi, hz, hl, hroom', h63', h48', Question.forced, hf, ho, newRow, grownCap]
    congr 2
    apply Array.ext'
    simp
  · simp [Builtin.append_, run_und hT, run_und hu, sizeOf, typeInfo, zeroValue, hi, hz, hl, hroom', h63', h48', Question.forced, hf, ho, newRow, grownCap]
    congr 2
    apply Array.ext'
    simp

theorem Grew.drew_alloc (w : World) (o : Obj) : Grew w (w.drew.alloc o) o := by
  refine ⟨?_, fun j hj => ?_, ?_, ?_, ?_, ?_⟩
  · simp [World.alloc, World.drew, -World.alloc_eq, -World.drew_eq]
  · simp [World.alloc, World.drew, -World.alloc_eq, -World.drew_eq, Array.getElem?_push]; omega
  · simp [World.alloc, World.drew, -World.alloc_eq, -World.drew_eq]
  · simp [World.alloc, World.drew, -World.alloc_eq, -World.drew_eq]
  · simp [World.alloc, World.drew, -World.alloc_eq, -World.drew_eq]
  · simp [World.alloc, World.drew, -World.alloc_eq, -World.drew_eq]

theorem drew_heap (w : World) : w.drew.heap = w.heap := by simp [World.drew, -World.drew_eq]

/-- how an append ends -/
def AppOp (S : Seat) (ρ : Loc) (H : Heap) (w : World) (x : Sem Value) (K : AV → Heap → Prop) : Prop :=
  ∃ v r H' ρ' w', x.run S.P w = .ok r w' ∧ K v H' ∧ VRel ρ' v r ∧ v.lt H'.next ∧ After S ρ H w ρ' H' w'

theorem appendK_out {e : TypeId} {α : Type} {E : Enc α} {xs ys : List α} {H : Heap} {K : AV → Heap → Prop} (h : appendK S E e xs ys H K) :
    (((xs.length + ys.length : Nat) : Int) * (bytesA S e : Int) ≤ 140737488355328 ∧ ((xs.length + ys.length : Nat) : Int) ≤ 140737488355328) ∧
    K (.sl (.loc H.next) E.m none ((xs.length + ys.length : Nat) : Int)) ⟨⟨.loc H.next, true, .arr E (xs ++ ys)⟩ :: H.ents, H.next + 1⟩ := by
  have h' := natK_out h
  clear h
  obtain ⟨h1, h⟩ := h'
  have h := pushK_out h
  exact ⟨h1, natK_out h⟩

theorem loc_lt (n : Nat) {m : Nat} {i : Option Int} {l : Int} : (AV.sl (.loc n) m i l).lt (n + 1) := fun k hk => by simp [Blk.root] at hk; omega

set_option maxHeartbeats 1000000 in
theorem append_sound (hS : SeatOk S) {T U ty : TypeId} {a x : AV} {ra rx : Value} {K : AV → Heap → Prop} (hH : HRel S ρ H w) (ha : VRel ρ a ra) (hx : VRel ρ x rx)
    (h : appendA S T U a x H K) : AppOp S ρ H w (Builtin.append_ #[T, U] ty #[ra, rx]) K := by
  unfold appendA at h
  split at h
  · rename_i e hT
    split at h
    · rename_i α E hh
      have hE : EncOk S.P e E := hS.hint _ _ hh
      obtain ⟨i, z, hi, him, hiz, hby⟩ := info_of hE
      obtain ⟨ys, rs, h', hv, hU, hlen, hmax, hfirst⟩ := src_sound (N := H.next) hE hH h hx
      clear h
      have h := h'
      clear h'
      have hall : rs.take (ys.length * E.m) = rs := List.take_of_length_le (by rw [hv.1]; omega)
      have hf0 : (Builtin.firstCells i.size ys.length rx).run S.P w = .ok rs.toArray w := by rw [him, hfirst _ w rfl (Nat.le_refl _), hall]
      have hf1 : (Builtin.firstCells i.size ys.length rx).run S.P w.drew = .ok rs.toArray w.drew := by rw [him, hfirst _ w.drew (drew_heap w) (Nat.le_refl _), hall]
      -- growing into a new block
      have grow : ∀ (base : Option Addr) (cap : Nat) (xs : List α) (olds : List Value) (l : List Ent), l.Sublist H.ents → ra = .slice base xs.length cap → xs.length ≤ cap → cap < xs.length + ys.length → Vals ρ H.next E xs olds →
          (Builtin.firstCells i.size xs.length ra).run S.P w.drew = .ok olds.toArray w.drew → appendK S E e xs ys ⟨l, H.next⟩ K → AppOp S ρ H w (Builtin.append_ #[T, U] ty #[ra, rx]) K := by
        intro base cap xs olds l hl hra hle hroom ho hof hK
        obtain ⟨⟨hb, hb2⟩, hK⟩ := appendK_out hK
        rw [hby] at hb
        have hb' : (xs.length + ys.length) * i.bytes ≤ 140737488355328 := Int.ofNat_le.1 (by rw [Int.natCast_mul]; exact hb)
        have hb2' : xs.length + ys.length ≤ 140737488355328 := by omega
        have hrun := append_grow (ty := ty) hT hU hi hiz hra (hlen w) hf1 hof hroom hle hb' hb2'
        have hcapge : xs.length + ys.length ≤ grownCap w (xs.length + ys.length) cap e := by unfold grownCap Question.cut; exact Nat.le_add_right _ _
        have hcaple : grownCap w (xs.length + ys.length) cap e ≤ 9223372036854775807 := by
          have := grownCap_le_maxLen w (xs.length + ys.length) cap e (by unfold maxLen; omega)
          unfold maxLen at this
          exact this
        have hvals := Vals.append hE ho hv
        generalize harr : (olds ++ rs ++ (Builtin.zeroCells z.cells (grownCap w (xs.length + ys.length) cap e - (xs.length + ys.length))).toList).toArray = arr at hrun
        have hlist : arr.toList = (olds ++ rs) ++ (Builtin.zeroCells z.cells (grownCap w (xs.length + ys.length) cap e - (xs.length + ys.length))).toList := by rw [← harr]
        have hzs : z.cells.size = E.m := by
          obtain ⟨zl, hz, hzr⟩ := hE.zero
          rw [hi] at hz
          simp [hiz] at hz
          subst hz
          have := (hzr ρ).length
          rw [hE.len] at this
          simpa using this
        have hsize : arr.size = grownCap w (xs.length + ys.length) cap e * E.m := by
          have l1 := hvals.1
          have l2 : (Builtin.zeroCells z.cells (grownCap w (xs.length + ys.length) cap e - (xs.length + ys.length))).toList.length = (grownCap w (xs.length + ys.length) cap e - (xs.length + ys.length)) * E.m := by
            rw [Array.length_toList, size_zeroCells, hzs]
          have l3 := congrArg List.length hlist
          rw [List.length_append, l1, l2, List.length_append, ← Nat.add_mul, Array.length_toList] at l3
          rw [l3]; congr 1; omega
        have hpush := hH.push (c := .arr E (xs ++ ys)) (Grew.drew_alloc w (.cells arr e)) (.inl rfl) (fun _ _ h => h) ⟨e, hE⟩ (fun b => hvals.lie hE hlist b)
        have hafter := hpush.sub (l := ⟨.loc H.next, true, .arr E (xs ++ ys)⟩ :: l) (hl.cons_cons _)
        refine ⟨_, _, _, _, _, hrun, hK, ?_, loc_lt _, hafter⟩
        refine sl_fresh (Loc.set_self _ _ _ _) rfl (by omega) ?_ _ hcapge hcaple ?_
        · rw [hsize]; exact Nat.mul_le_mul_right _ hcapge
        · rw [hsize]; omega
      -- nothing to nothing
      have nothing : ∀ (base : Option Addr) (l : List Ent), l.Sublist H.ents → ra = .slice base 0 0 → ys = [] → appendK S E e [] ys ⟨l, H.next⟩ K → AppOp S ρ H w (Builtin.append_ #[T, U] ty #[ra, rx]) K := by
        rintro base l hl hra rfl hK
        obtain ⟨_, hK⟩ := appendK_out hK
        have hrs : rs = [] := List.eq_nil_of_length_eq_zero (by rw [hv.1]; simp)
        subst hrs
        have hrun := append_room (ty := ty) hT hU hi hra (hlen w) hf0 (by simp) (w'' := w) (by cases base <;> simp [storeCells])
        have hnone := hH.nothing (c := .arr E ([] ++ [])) (by simp [Cont.empty]) (fun _ _ h => h) ⟨e, hE⟩
        have hafter := hnone.sub (l := ⟨.loc H.next, true, .arr E ([] ++ [])⟩ :: l) (hl.cons_cons _)
        exact ⟨_, _, _, _, _, hrun, hK, .inl ⟨Loc.setO_self _ _ _, rfl, rfl, base, rfl⟩, loc_lt _, hafter⟩
      have fromNil : ∀ (base : Option Addr) (l : List Ent), l.Sublist H.ents → ra = .slice base 0 0 → appendK S E e [] ys ⟨l, H.next⟩ K → AppOp S ρ H w (Builtin.append_ #[T, U] ty #[ra, rx]) K := by
        intro base l hl hra hK
        by_cases hy : ys = []
        · exact nothing base l hl hra hy hK
        · have : 0 < ys.length := List.length_pos_iff.2 hy
          refine grow base 0 [] [] l hl hra (by simp) (by simpa using this) ⟨by simp, fun t ht => by simp at ht⟩ ?_ hK
          rw [hra]
          cases base with
          | none => simp [Builtin.firstCells]
          | some a => simp [Builtin.firstCells, loadCells, loadCellsFrom]
      split at h
      · obtain ⟨b, hb⟩ := ha
        exact fromNil b H.ents (List.Sublist.refl _) hb h
      · rename_i b m n
        split at h
        · rename_i b' c hg
          obtain ⟨hmem, hkey⟩ := getE_mem hg
          have hkey := hkey.symm
          simp only at hkey
          subst hkey
          obtain ⟨xs, ⟨rfl, rfl, rfl⟩, h⟩ := h
          have h := delK_out h
          have hlies := (hH.holds _ hmem).lies
          rcases ha with ⟨e1, e2, e3, base, hra⟩ | ⟨k, zz, cap, off, e1, e2, e3, e4, e5, e6, e7, hra⟩
          · simp only [Lies, e1, Cont.empty] at hlies
            subst hlies
            exact fromNil base _ (delE_sub _ _) hra h
          · simp only [Int.toNat_natCast] at e4 hra
            simp only [Option.getD_none, Int.toNat_zero, Nat.zero_mul, Nat.zero_add] at e6 e7
            simp only [Lies, e1] at hlies
            obtain ⟨arr0, TT, fz, g1, g2, g3, g4⟩ := hlies
            have hsz2 := own_size g2
            generalize harr : own arr0 zz = arr at g4 hsz2
            have hxs := lie_vals hE g4
            by_cases hroom : xs.length + ys.length ≤ cap
            · -- room
              obtain ⟨_, hK⟩ := appendK_out h
              have hkeyb := hH.key _ hmem
              have hone := hv.one hE
              -- the store
              have hstore : ∃ w'' arr', (match (some (⟨k, off, none⟩ : Addr)) with | none => w'' = w | some a => (storeCells (a.add (xs.length * i.size)) rs).run S.P w = .ok () w'') ∧ w''.heap[k]? = some (.cells arr' TT fz) ∧ arr'.size = arr0.size ∧
                  (own arr' zz).toList = arr.toList.take (xs.length * E.m) ++ (rs ++ arr.toList.drop (xs.length * E.m + rs.length)) ∧ (∀ j, j ≠ k → w''.heap[j]? = w.heap[j]?) ∧ w''.heap.size = w.heap.size ∧ w''.os = w.os ∧ w''.tape = w.tape ∧ w''.output = w.output := by
                by_cases hcap : cap = 0
                · have hx0 : xs = [] := List.eq_nil_of_length_eq_zero (by omega)
                  have hy0 : ys = [] := List.eq_nil_of_length_eq_zero (by omega)
                  subst hx0; subst hy0
                  have hrs : rs = [] := List.eq_nil_of_length_eq_zero (by rw [hv.1]; simp)
                  subst hrs
                  exact ⟨w, arr0, by simp [storeCells], g1, rfl, by simp [harr], fun _ _ => rfl, rfl, rfl, rfl, rfl⟩
                · have hoff : off = zz.1 := by rcases e7 with q | q; exact absurd q hcap; exact q
                  subst hoff
                  have hfit : (xs.length + ys.length) * E.m ≤ cap * E.m := Nat.mul_le_mul_right _ hroom
                  rw [Nat.add_mul] at hfit
                  have hrs := hv.1
                  obtain ⟨w'', arr', r1, r2, r3, r4, r5, r6, r7, r8⟩ := store_run S.P k (zz.1 + xs.length * E.m) TT fz rs 0 arr0 w g1 (by omega) (fun y q1 q2 => by have := g3 trivial; omega) hone
                  simp only [Nat.add_zero] at r3
                  have r3' := own_splice (z := zz) (q := xs.length * E.m) (by omega) g2 r3
                  rw [harr] at r3'
                  have hsize0 : arr'.size = arr0.size := by
                    have := congrArg List.length r3
                    simp only [List.length_append, List.length_take, List.length_drop, Array.length_toList] at this
                    omega
                  refine ⟨w'', arr', ?_, r2, hsize0, r3', r4, r5, r6, r7, r8⟩
                  simp only [him]
                  have hadd : (Addr.add ⟨k, zz.1, none⟩ (xs.length * E.m)) = ⟨k, zz.1 + xs.length * E.m, none⟩ := by
                    simp only [Addr.add]; split
                    · rename_i q; simp [q]
                    · simp
                  rw [hadd]; exact r1
              obtain ⟨w'', arr0', hst, r2, hsize0, r3, r4, r5, r6, r7, r8⟩ := hstore
              have hrun := append_room (ty := ty) hT hU hi hra (hlen w) hf0 hroom hst
              generalize harr' : own arr0' zz = arr' at r3
              have ha2 := Loc.setO_agree ρ H.next (ρ b)
              have hvals := Vals.append hE hxs hv
              have hlist : arr'.toList = (arr.toList.take (xs.length * E.m) ++ rs) ++ arr.toList.drop (xs.length * E.m + rs.length) := by rw [r3, List.append_assoc]
              have hlie := (hvals.lie hE hlist b).agree (b2 := .loc H.next) ha2 (Nat.le_succ _)
              have hl : Lies (ρ.setO H.next (ρ b)) (H.next + 1) w'' true (.loc H.next) (.arr E (xs ++ ys)) := by
                simp only [Lies, Loc.setO_self, e1]
                exact ⟨arr0', TT, fz, r2, by omega, fun _ => by rw [hsize0]; exact g3 trivial, by rw [harr']; exact (hvals.lie hE hlist (.loc H.next)).agree (by rw [← e1]; exact ha2) (Nat.le_succ _) rfl⟩
              have hafter := hH.move (c := .arr E (xs ++ ys)) hg rfl (fun _ _ h => h) ⟨e, hE⟩ hl (fun j hj => r4 j fun q => hj zz (by rw [e1, q])) (by omega) r6 r7 r8
              refine ⟨_, _, _, _, _, hrun, hK, .inr ⟨k, zz, cap, off, by rw [Loc.setO_self, e1], by simp, by omega, by rw [Int.toNat_natCast]; exact hroom, e5, by simpa using e6, by simpa using e7, by rw [Int.toNat_natCast]⟩, loc_lt _, hafter⟩
            · -- none
              have hle : xs.length ≤ cap := e4
              refine grow (some ⟨k, off, none⟩) cap xs (arr.toList.take (xs.length * E.m)) _ (delE_sub _ _) hra hle (by omega) hxs ?_ h
              rw [hra, him]
              by_cases hcap : cap = 0
              · have hx0 : xs = [] := List.eq_nil_of_length_eq_zero (by omega)
                subst hx0
                simp [Builtin.firstCells, loadCells, loadCellsFrom]
              · have hoff : off = zz.1 := by rcases e7 with q | q; exact absurd q hcap; exact q
                subst hoff
                have hl1 : (arr.toList.take (xs.length * E.m)).length = xs.length * E.m := hxs.1
                have := run_loadCells_list (P := S.P) w.drew ⟨k, zz.1, none⟩ (arr.toList.take (xs.length * E.m)) (fun j v hv => by
                  rw [List.getElem?_take] at hv
                  split at hv
                  · have hcell : w.drew.cell? ⟨k, zz.1 + j, none⟩ = some v := by
                      simp only [World.cell?, drew_heap, g1]
                      rw [← harr] at hv
                      simpa using own_get hv
                    simp only [Addr.add]
                    split
                    · rename_i q; subst q; exact hcell
                    · simpa using hcell
                  · simp at hv)
                rw [hl1] at this
                exact this
        · exact h.elim
      · exact h.elim
    · exact h.elim
  · exact h.elim
end
end Go.Vm

namespace Go.Vm
open Go.RowKit
section
variable (S : Seat)
/-- clear, of a slice -/
def clearA (T : TypeId) (s : AV) (H : Heap) (K : AV → Heap → Prop) : Prop :=
  match S.P.underlying T with
  | some (.slice e) => match S.hint e with
    | some ⟨_, E⟩ => match s with
      | .nils => K (.tup []) H
      | .sl b m i n => match getE H.ents b with
        | some ⟨_, true, c⟩ => ∃ xs, (c = .arr E xs ∧ m = E.m) ∧ match i with
          | none => (0 ≤ n ∧ n ≤ xs.length) ∧ setH H b (.arr E (over xs 0 (List.replicate n.toNat E.d))) fun H => K (.tup []) H
          | some i => (0 ≤ i ∧ 0 ≤ n ∧ i + n ≤ xs.length) ∧ setH H b (.arr E (over xs i.toNat (List.replicate n.toNat E.d))) fun H => K (.tup []) H
        | _ => False
      | _ => False
    | none => False
  | _ => False
end
section
variable {S : Seat} {ρ ρ' : Loc} {H : Heap} {w w' : World} {N N' : Nat}

theorem Vals.drop {α : Type} {E : Enc α} {ys : List α} {rs : List Value} (h : Vals ρ N E ys rs) (n : Nat) : Vals ρ N E (ys.drop n) (rs.drop (n * E.m)) := by
  refine ⟨by rw [List.length_drop, List.length_drop, h.1, Nat.sub_mul], fun t ht => ?_⟩
  rw [List.length_drop] at ht
  have e1 : (ys.drop n).getD t E.d = ys.getD (n + t) E.d := by simp only [List.getD_eq_getElem?_getD, List.getElem?_drop]
  rw [e1, List.drop_drop, ← Nat.add_mul]
  exact h.2 (n + t) (by omega)

theorem over_lie {T : TypeId} {α : Type} {E : Enc α} (hE : EncOk S.P T E) {xs ys : List α} {arr arr' : Array Value} {news : List Value} {b : Blk} {i : Nat} (h : CellsLie ρ N arr b (.arr E xs)) (hv : Vals ρ N E ys news) (hi : i + ys.length ≤ xs.length)
    (ha : arr'.toList = arr.toList.take (i * E.m) ++ (news ++ arr.toList.drop (i * E.m + news.length))) (b' : Blk) : CellsLie ρ N arr' b' (.arr E (over xs i ys)) := by
  have hx := lie_vals hE h
  have hsz := h.1
  have hA := hx.take i
  have hB := hx.drop (i + ys.length)
  have hm : i * E.m + ys.length * E.m ≤ xs.length * E.m := by rw [← Nat.add_mul]; exact Nat.mul_le_mul_right _ hi
  refine (Vals.append hE hA (Vals.append hE hv hB)).lie hE (rest := arr.toList.drop (xs.length * E.m)) ?_ b'
  rw [ha, hv.1, Nat.add_mul, List.take_take, Nat.min_eq_left (by omega), List.append_assoc, List.append_assoc]
  congr 2
  rw [List.drop_take]
  have e : arr.toList.drop (xs.length * E.m) = (arr.toList.drop (i * E.m + ys.length * E.m)).drop (xs.length * E.m - (i * E.m + ys.length * E.m)) := by
    rw [List.drop_drop]; congr 1; omega
  rw [e, List.take_append_drop]

theorem over_length {α : Type} {xs ys : List α} {i : Nat} (h : i + ys.length ≤ xs.length) : (over xs i ys).length = xs.length := by
  simp only [over, List.length_append, List.length_take, List.length_drop]
  omega

/-- cells written into a range of a block -/
theorem range_write {e : TypeId} {α : Type} {E : Enc α} (hE : EncOk S.P e E) (hH : HRel S ρ H w) {b b0 : Blk} {xs ys : List α} (hg : getE H.ents b = some ⟨b0, true, .arr E xs⟩) {i : Nat} {n : Int} {io : Option Int} {r : Value}
    (hi : (i : Int) = io.getD 0) (hle : i + ys.length ≤ xs.length) {news : List Value} (hv : Vals ρ H.next E ys news) (hr : VRel ρ (.sl b E.m io n) r) (hny : ys.length ≤ n.toNat) :
    ∃ base cap w', r = .slice base n.toNat cap ∧ (match base with | none => ys = [] ∧ w' = w | some a => (storeCells a news).run S.P w = .ok () w') ∧ After S ρ H w ρ ⟨setE H.ents b (.arr E (over xs i ys)), H.next⟩ w' := by
  obtain ⟨hmem, hkey⟩ := getE_mem hg
  simp only at hkey
  subst hkey
  have hlies := (hH.holds _ hmem).lies
  -- nothing written
  have idle : ys = [] → After S ρ H w ρ ⟨setE H.ents b0 (.arr E (over xs i ys)), H.next⟩ w := by
    rintro rfl
    have ho : over xs i ([] : List α) = xs := by simp [over]
    rw [ho]
    cases hb : ρ b0 with
    | some kz =>
      obtain ⟨k, z⟩ := kz
      exact hH.update hg rfl hb (fun b' h => h) (hH.enc _ hmem) hlies (fun _ _ => rfl) hlies (Nat.le_refl _) rfl rfl rfl
    | none =>
      have hmemE := setE_mem (c := .arr E xs) hg hH.keys
      have same : ∀ x ∈ setE H.ents b0 (.arr E xs), x ∈ H.ents := by
        intro x hx
        rcases hmemE x hx with rfl | ⟨q, _⟩
        · exact hmem
        · exact q
      refine ⟨Nat.le_refl _, .refl _ _, ⟨fun x hx => hH.holds x (same x hx), fun x hx => hH.key x (same x hx), fun x hx y hy => hH.sep x (same x hx) y (same y hy), setE_keys hH.keys, hH.glob, fun x hx => hH.enc x (same x hx)⟩, Nat.le_refl _, fun _ _ _ => rfl, ?_, rfl, rfl, rfl⟩
      rintro j ⟨x, hx, rest⟩
      exact .inr ⟨x, same x hx, rest⟩
  rcases hr with ⟨e1, e2, e3, base, hra⟩ | ⟨k, zz, cap, off, e1, e2, e3, e4, e5, e6, e7, hra⟩
  · have hy0 : ys = [] := List.eq_nil_of_length_eq_zero (by rw [e2] at hny; simpa using hny)
    subst e2
    have hnews : news = [] := List.eq_nil_of_length_eq_zero (by rw [hv.1, hy0]; simp)
    refine ⟨base, 0, w, hra, ?_, idle hy0⟩
    cases base with
    | none => exact ⟨hy0, rfl⟩
    | some a => rw [hnews]; simp [storeCells]
  · simp only [Lies, e1] at hlies
    obtain ⟨arr0, TT, fz, g1, g2, g3, g4⟩ := hlies
    have hsz2 := own_size g2
    generalize harr : own arr0 zz = arr at g4 hsz2
    by_cases hy0 : ys = []
    · have hnews : news = [] := List.eq_nil_of_length_eq_zero (by rw [hv.1, hy0]; simp)
      exact ⟨_, cap, w, hra, by rw [hnews]; simp [storeCells], idle hy0⟩
    · have hypos : 0 < ys.length := List.length_pos_iff.2 hy0
      have hoff : off = zz.1 + i * E.m := by
        rcases e7 with q | q
        · omega
        · rw [q, ← hi, Int.toNat_natCast]
      subst hoff
      have hsz := g4.1
      have hfit : i * E.m + ys.length * E.m ≤ xs.length * E.m := by rw [← Nat.add_mul]; exact Nat.mul_le_mul_right _ hle
      have hnl := hv.1
      obtain ⟨w', arr0', r1, r2, r3, r4, r5, r6, r7, r8⟩ := store_run S.P k (zz.1 + i * E.m) TT fz news 0 arr0 w g1 (by omega) (fun y q1 q2 => by have := g3 trivial; omega) (hv.one hE)
      simp only [Nat.add_zero] at r3
      have hsize0 : arr0'.size = arr0.size := by
        have := congrArg List.length r3
        simp only [List.length_append, List.length_take, List.length_drop, Array.length_toList, hv.1] at this
        omega
      have r3' := own_splice (z := zz) (q := i * E.m) (by omega) g2 r3
      rw [harr] at r3'
      have hl : Lies ρ H.next w' true b0 (.arr E (over xs i ys)) := by
        simp only [Lies, e1]
        exact ⟨arr0', TT, fz, r2, by omega, fun _ => by rw [hsize0]; exact g3 trivial, over_lie hE g4 hv hle r3' b0⟩
      exact ⟨_, cap, w', hra, r1, hH.update hg rfl e1 (fun b' h => h) (hH.enc _ hmem) hl r4 hl (by omega) r6 r7 r8⟩

theorem copy_sound (hS : SeatOk S) {T U ty : TypeId} {a x : AV} {ra rx : Value} {K : AV → Heap → Prop} (hH : HRel S ρ H w) (ha : VRel ρ a ra) (hx : VRel ρ x rx)
    (h : copyA S T U a x H K) : AppOp S ρ H w (Builtin.copy_ #[T, U] ty #[ra, rx]) K := by
  unfold copyA at h
  split at h
  · rename_i e hT
    split at h
    · rename_i α E hh
      have hE : EncOk S.P e E := hS.hint _ _ hh
      obtain ⟨i, z, hi, him, hiz, hby⟩ := info_of hE
      obtain ⟨ys, rs, h', hv, hU, hlen, hmax, hfirst⟩ := src_sound (N := H.next) hE hH h hx
      clear h
      have h := h'
      clear h'
      have hsz : (sizeOf e).run S.P w = .ok E.m w := by simp [sizeOf, typeInfo, hi, him]
      split at h
      · obtain ⟨b, hb⟩ := ha
        refine ⟨_, .int .i64 0, H, ρ, w, ?_, h, rfl, trivial, .refl hH⟩
        have := hfirst 0 w rfl (by omega)
        simp only [Nat.zero_mul, List.take_zero] at this
        cases b <;> simp [Builtin.copy_, run_und hT, hb, hlen, hsz, this, storeCells, goInt]
      · rename_i b m io n
        split at h
        · rename_i b' c hg
          obtain ⟨xs, ⟨rfl, rfl⟩, h⟩ := h
          have hp : ∃ i' : Nat, (i' : Int) = io.getD 0 ∧ 0 ≤ n ∧ i' + n.toNat ≤ xs.length ∧ K (.int .i64 (min (ys.length : Int) n)) ⟨setE H.ents b (.arr E (over xs i' (ys.take n.toNat))), H.next⟩ := by
            split at h
            · obtain ⟨⟨h1, h2⟩, h⟩ := h
              exact ⟨0, rfl, h1, by omega, setH_out h⟩
            · rename_i i0
              obtain ⟨⟨h1, h2, h3⟩, h⟩ := h
              exact ⟨i0.toNat, by simp; omega, h2, by omega, setH_out h⟩
          obtain ⟨i', hi', hn, hle, hK⟩ := hp
          have hlt : (ys.take n.toNat).length ≤ n.toNat := by simp; omega
          obtain ⟨base, cap, w', hra, hst, haf⟩ := range_write hE hH hg (i := i') (ys := ys.take n.toNat) (news := (rs.take (n.toNat * E.m))) hi' (by omega) (hv.take _) ha hlt
          have hfst := hfirst (Nat.min ys.length n.toNat) w rfl (Nat.min_le_left _ _)
          have hnews : rs.take (Nat.min ys.length n.toNat * E.m) = rs.take (n.toNat * E.m) := by
            rw [List.take_eq_take_iff, hv.1, show Nat.min ys.length n.toNat = min ys.length n.toNat from rfl, ← Nat.mul_min_mul_right]
            omega
          rw [hnews] at hfst
          have hret : goInt ((Nat.min ys.length n.toNat : Nat) : Int) = .int .i64 (min (ys.length : Int) n) := by
            unfold goInt; congr 1; rw [show Nat.min ys.length n.toNat = min ys.length n.toNat from rfl]; omega
          refine ⟨_, _, _, ρ, w', ?_, hK, rfl, trivial, haf⟩
          cases base with
          | none =>
            obtain ⟨_, rfl⟩ := hst
            simp only [Builtin.copy_, List.getElem?_toArray, List.getElem?_cons_zero, List.getElem?_cons_succ, Sem.run_bind, run_und hT, Result.andThen_ok, hra, hlen, hsz, hfst, Sem.run_pure, hret]
          | some a =>
            simp only [Builtin.copy_, List.getElem?_toArray, List.getElem?_cons_zero, List.getElem?_cons_succ, Sem.run_bind, run_und hT, Result.andThen_ok, hra, hlen, hsz, hfst, Sem.run_pure, hret]
            have hst : (storeCells a (rs.take (n.toNat * E.m))).run S.P w = .ok () w' := hst
            simp only [hst, Result.andThen_ok, Sem.run_pure]
        · exact h.elim
      · exact h.elim
    · exact h.elim
  · exact h.elim

theorem vals_zero {e : TypeId} {α : Type} {E : Enc α} (hE : EncOk S.P e E) {z : Value} {i : TypeInfo} (hi : S.P.info? e = some i) (hz : i.zero = some z) (n : Nat) : Vals ρ N E (List.replicate n E.d) (Builtin.zeroCells z.cells n).toList := by
  obtain ⟨zl, hz1, hz2⟩ := hE.zero
  rw [hi] at hz1
  simp [hz] at hz1
  subst hz1
  have hr := hz2 ρ
  have hm : z.cells.toList.length = E.m := by rw [hr.length, hE.len]
  have hlist : (Builtin.zeroCells z.cells n).toList = (List.replicate n z.cells.toList).flatten := zeroCells_list _ _
  rw [hlist]
  refine ⟨by simp [hm], fun t ht => ?_⟩
  rw [List.length_replicate] at ht
  rw [flatten_piece hm (by simpa using ht)]
  simp only [List.getD_eq_getElem?_getD, List.getElem?_replicate, if_pos ht, Option.getD_some]
  exact hr

theorem clear_sound (hS : SeatOk S) {T ty : TypeId} {a : AV} {ra : Value} {K : AV → Heap → Prop} (hH : HRel S ρ H w) (ha : VRel ρ a ra)
    (h : clearA S T a H K) : AppOp S ρ H w (Builtin.clear_ #[T] ty #[ra]) K := by
  unfold clearA at h
  split at h
  · rename_i e hT
    split at h
    · rename_i α E hh
      have hE : EncOk S.P e E := hS.hint _ _ hh
      obtain ⟨i, z, hi, him, hiz, hby⟩ := info_of hE
      have hzv : (zeroValue e).run S.P w = .ok z w := by simp [zeroValue, typeInfo, hi, hiz]
      split at h
      · obtain ⟨b, hb⟩ := ha
        refine ⟨_, .tuple #[], H, ρ, w, ?_, h, ⟨[], rfl, rfl⟩, trivial, .refl hH⟩
        cases b <;> simp [Builtin.clear_, run_und hT, hb]
      · rename_i b m io n
        split at h
        · rename_i b' c hg
          obtain ⟨xs, ⟨rfl, rfl⟩, h⟩ := h
          have hp : ∃ i' : Nat, (i' : Int) = io.getD 0 ∧ 0 ≤ n ∧ i' + n.toNat ≤ xs.length ∧ K (.tup []) ⟨setE H.ents b (.arr E (over xs i' (List.replicate n.toNat E.d))), H.next⟩ := by
            split at h
            · obtain ⟨⟨h1, h2⟩, h⟩ := h
              exact ⟨0, rfl, h1, by omega, setH_out h⟩
            · rename_i i0
              obtain ⟨⟨h1, h2, h3⟩, h⟩ := h
              exact ⟨i0.toNat, by simp; omega, h2, by omega, setH_out h⟩
          obtain ⟨i', hi', hn, hle, hK⟩ := hp
          obtain ⟨base, cap, w', hra, hst, haf⟩ := range_write hE hH hg (i := i') (ys := List.replicate n.toNat E.d) hi' (by simp; omega) (vals_zero hE hi hiz n.toNat) ha (by simp)
          refine ⟨_, .tuple #[], _, ρ, w', ?_, hK, ⟨[], rfl, rfl⟩, trivial, haf⟩
          cases base with
          | none =>
            obtain ⟨_, rfl⟩ := hst
            simp [Builtin.clear_, run_und hT, hra]
          | some a =>
            cases hnn : n.toNat with
            | zero =>
              rw [hnn] at hst hra
              have hst : (storeCells a (Builtin.zeroCells z.cells 0).toList).run S.P w = .ok () w' := hst
              simp [Builtin.zeroCells, storeCells] at hst
              subst hst
              simp [Builtin.clear_, run_und hT, hra]
            | succ k =>
              rw [hnn] at hst hra
              have hst : (storeCells a (Builtin.zeroCells z.cells (k + 1)).toList).run S.P w = .ok () w' := hst
              simp [Builtin.clear_, run_und hT, hra, hzv, hst]
        · exact h.elim
      · exact h.elim
    · exact h.elim
  · exact h.elim
end
end Go.Vm

namespace Go.Vm
open Go.RowKit
section
variable (S : Seat)
/-- a conversion of bytes to their own type -/
def convSlA (s d : TypeId) (x : AV) (H : Heap) (K : AV → Heap → Prop) : Prop :=
  match S.P.underlying s with
  | some (.slice _) => match S.P.underlying d with
    | some (.slice e) => match S.P.underlying e with
      | some (.int .u8) => match s == d with
        | true => match x with
          | .sl b m i n => match getE H.ents b with
            | some ⟨_, true, .arr E xs⟩ => 0 < n ∧ setH H b (.arr E xs) fun H => K (.sl b m i n) H
            | _ => False
          | _ => False
        | false => False
      | _ => False
    | _ => False
  | _ => False
end
section
variable {S : Seat} {ρ ρ' : Loc} {H : Heap} {w w' : World} {N N' : Nat}
theorem convSl_sound {s d : TypeId} {x : AV} {rx : Value} {K : AV → Heap → Prop} (hH : HRel S ρ H w) (hx : VRel ρ x rx) (hl : x.lt H.next) (h : convSlA S s d x H K) :
    AppOp S ρ H w (convert s d rx) K := by
  unfold convSlA at h
  split at h
  · rename_i es hs
    split at h
    · rename_i e hd
      split at h
      · rename_i he
        split at h
        · rename_i hsd
          split at h
          · rename_i b m i n
            split at h
            · rename_i b' α E xs hg
              obtain ⟨hn, h⟩ := h
              have hK := setH_out h
              obtain ⟨hmem, hkey⟩ := getE_mem hg
              simp only at hkey
              subst hkey
              rcases hx with ⟨_, e2, _⟩ | ⟨k, zz, cap, off, e1, e2, e3, e4, e5, e6, e7, hra⟩
              · omega
              · have hlies := (hH.holds _ hmem).lies
                simp only [Lies, e1] at hlies
                obtain ⟨arr, TT, fz, g1, g2, g3, g4⟩ := hlies
                have hk : k < w.heap.size := by
                  rcases Nat.lt_or_ge k w.heap.size with q | q
                  · exact q
                  · rw [Array.getElem?_eq_none q] at g1; simp at g1
                have hsh : w.shape? k = some (TT, arr.size) := by simp [World.shape?, g1]
                have hrun : (convert s d rx).run S.P w = .ok rx (w.freeze ⟨k, arr.size, none⟩ 1) := by
                  rw [hra]
                  simp [convert, run_und hs, run_und hd, run_und he, hsd, markStringish, hsh]
                have hfz : ∃ fz2 : Nat × Nat, (w.freeze ⟨k, arr.size, none⟩ 1).heap[k]? = some (.cells arr TT fz2) ∧ arr.size ≤ fz2.1 := by
                  have g3 := g3 trivial
                  unfold World.freeze
                  rw [if_neg (by decide)]
                  obtain ⟨lo, hi⟩ := fz
                  simp only at g3
                  refine ⟨if lo == hi then (arr.size, arr.size + 1) else (min lo arr.size, max hi (arr.size + 1)), ?_, ?_⟩
                  · simp [Array.getElem?_modify, g1]
                  · split
                    · exact Nat.le_refl _
                    · rename_i hne
                      have hne : ¬ lo = hi := by simpa using hne
                      simp only
                      omega
                obtain ⟨fz2, hfz, hfz2⟩ := hfz
                have hoth : ∀ j, j ≠ k → (w.freeze ⟨k, arr.size, none⟩ 1).heap[j]? = w.heap[j]? := by
                  intro j hj
                  unfold World.freeze
                  rw [if_neg (by decide)]
                  simp [Array.getElem?_modify, Ne.symm hj]
                have hlies' : Lies ρ H.next (w.freeze ⟨k, arr.size, none⟩ 1) true b' (.arr E xs) := by
                  simp only [Lies, e1]
                  exact ⟨arr, TT, fz2, hfz, g2, fun _ => .inr hfz2, g4⟩
                have hsz : (w.freeze ⟨k, arr.size, none⟩ 1).heap.size = w.heap.size := by
                  unfold World.freeze
                  rw [if_neg (by decide)]
                  simp
                have haf := hH.update (c := .arr E xs) hg rfl e1 (fun b'' h => h) (hH.enc _ hmem) hlies' hoth hlies' (by omega) (by unfold World.freeze; rw [if_neg (by decide)]) (by unfold World.freeze; rw [if_neg (by decide)]) (by unfold World.freeze; rw [if_neg (by decide)])
                refine ⟨_, rx, _, ρ, _, hrun, hK, .inr ⟨k, zz, cap, off, e1, e2, e3, e4, e5, e6, e7, hra⟩, hl, haf⟩
            · exact h.elim
          · exact h.elim
        · exact h.elim
      · exact h.elim
    · exact h.elim
  · exact h.elim
end
end Go.Vm
