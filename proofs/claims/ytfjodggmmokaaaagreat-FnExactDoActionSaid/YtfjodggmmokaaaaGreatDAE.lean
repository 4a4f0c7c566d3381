/- An abstract machine over the loaded code: append and copy do what is said of them. -/
import Derived.Test.YtfjodggmmokaaaaGreatDAD
set_option linter.unusedSimpArgs false
set_option linter.unusedVariables false
set_option linter.constructorNameAsVariable false
namespace Go.Vm
open Go.RowKit
section
variable {S : Seat} {ρ ρ' : Lay} {H : Heap} {w w' : World} {N N' : Nat}
theorem info_of {e : TypeId} {α : Type} {E : Enc α} (hE : EncOk S.P e E) : ∃ i z, S.P.info? e = some i ∧ i.size = E.m ∧ i.zero = some z ∧ bytesA S e = i.bytes := by
  obtain ⟨zl, hz, _⟩ := hE.zero
  have hm := hE.m
  cases hi : S.P.info? e with
  | none => rw [hi] at hm; simp at hm
  | some i =>
    rw [hi] at hm hz
    simp at hm hz
    obtain ⟨z, hz, _⟩ := hz
    exact ⟨i, z, rfl, hm, hz, by simp [bytesA, hi]⟩
set_option maxHeartbeats 1000000 in
theorem append_room {T U ty e : TypeId} {i : TypeInfo} {s x : Value} {base : Option Addr} {n cap m : Nat} {news : List Value} (hT : S.P.underlying T = some (.slice e)) (hU : (∃ el, S.P.underlying U = some (.slice el)) ∨ S.P.underlying U = some .string) (hi : S.P.info? e = some i)
    (hs : s = .slice base n cap) (hl : (Builtin.lenOf x).run S.P w = .ok m w) (hf : (Builtin.firstCells i.size m x).run S.P w = .ok news.toArray w) (hroom : n + m ≤ cap) {w'' : World}
    (hst : match base with | none => w'' = w | some a => (storeCells (a.add (n * i.size)) news).run S.P w = .ok () w'') :
    (Builtin.append_ #[T, U] ty #[s, x]).run S.P w = .ok (.slice base (n + m) cap) w'' := by
  subst hs
  have hsz : (sizeOf e).run S.P w = .ok i.size w := by simp [sizeOf, typeInfo, hi]
  rcases hU with ⟨el, hu⟩ | hu
  · cases base with
    | none =>
      simp only at hst
      subst hst
      simp [Builtin.append_, run_und hT, run_und hu, hsz, hl, hroom, hf]
    | some a => simp [Builtin.append_, run_und hT, run_und hu, hsz, hl, hroom, hf, hst]
  · cases base with
    | none =>
      simp only at hst
      subst hst
      simp [Builtin.append_, run_und hT, run_und hu, hsz, hl, hroom, hf]
    | some a => simp [Builtin.append_, run_und hT, run_und hu, hsz, hl, hroom, hf, hst]
set_option maxHeartbeats 1000000 in
theorem append_grow {T U ty e : TypeId} {i : TypeInfo} {z : Value} {s x : Value} {base : Option Addr} {n cap m : Nat} {olds news : List Value} (hT : S.P.underlying T = some (.slice e)) (hU : (∃ el, S.P.underlying U = some (.slice el)) ∨ S.P.underlying U = some .string) (hi : S.P.info? e = some i) (hz : i.zero = some z)
    (hs : s = .slice base n cap) (hl : (Builtin.lenOf x).run S.P w = .ok m w) (hf : (Builtin.firstCells i.size m x).run S.P w.drew = .ok news.toArray w.drew) (ho : (Builtin.firstCells i.size n s).run S.P w.drew = .ok olds.toArray w.drew)
    (hroom : cap < n + m) (hle : n ≤ cap) (hb : (n + m) * i.bytes ≤ 140737488355328) (h63 : n + m ≤ 140737488355328) :
    (Builtin.append_ #[T, U] ty #[s, x]).run S.P w =
      .ok (.slice (some ⟨w.heap.size, 0, none⟩) (n + m) (grownCap w (n + m) cap e)) (w.drew.alloc (.cells (olds ++ news ++ (Builtin.zeroCells z.cells (grownCap w (n + m) cap e - (n + m))).toList).toArray e)) := by
  subst hs
  have hsz : (sizeOf e).run S.P w = .ok i.size w := by simp [sizeOf, typeInfo, hi]
  have hroom' : ¬ (n + m ≤ cap) := by omega
  have h63' : ¬ (9223372036854775807 < ((n : Int) + (m : Int))) := by omega
  have h48 := growslice_fits hroom hb
  have h48' : ¬ (281474976710656 < Builtin.nextslicecap (n + m) cap * i.bytes) := by omega
  rcases hU with ⟨el, hu⟩ | hu
  · simp [Builtin.append_, run_und hT, run_und hu, sizeOf, typeInfo, zeroValue, hi, hz, hl, hroom', h63', h48', Question.forced, hf, ho, newRow, grownCap]
    congr 2
    apply Array.ext'
    simp
  · simp [Builtin.append_, run_und hT, run_und hu, sizeOf, typeInfo, zeroValue, hi, hz, hl, hroom', h63', h48', Question.forced, hf, ho, newRow, grownCap]
    congr 2
    apply Array.ext'
    simp
theorem Grew.drew_alloc (w : World) (o : Obj) : Grew w (w.drew.alloc o) o := by
  refine ⟨?_, fun j hj => ?_, ?_, ?_, ?_, ?_⟩
  · simp [World.alloc, World.drew, -World.alloc_eq, -World.drew_eq]
  · simp [World.alloc, World.drew, -World.alloc_eq, -World.drew_eq, Array.getElem?_push]; omega
  · simp [World.alloc, World.drew, -World.alloc_eq, -World.drew_eq]
  · simp [World.alloc, World.drew, -World.alloc_eq, -World.drew_eq]
  · simp [World.alloc, World.drew, -World.alloc_eq, -World.drew_eq]
  · simp [World.alloc, World.drew, -World.alloc_eq, -World.drew_eq]
theorem drew_heap (w : World) : w.drew.heap = w.heap := by simp [World.drew, -World.drew_eq]
def AppOp (S : Seat) (ρ : Lay) (H : Heap) (w : World) (x : Sem Value) (K : AV → Heap → Prop) : Prop :=
  ∃ v r H', ∃ ρ' : Lay, ∃ w', x.run S.P w = .ok r w' ∧ K v H' ∧ VRel ρ' v r ∧ v.lt H'.next ∧ After S ρ H w ρ' H' w'
theorem appendK_out {e : TypeId} {α : Type} {E : Enc α} {xs ys : List α} {H : Heap} {K : AV → Heap → Prop} (h : appendK S E e xs ys H K) :
    (((xs.length + ys.length : Nat) : Int) * (bytesA S e : Int) ≤ 140737488355328 ∧ ((xs.length + ys.length : Nat) : Int) ≤ 140737488355328) ∧
    K (.sl (.loc H.next) E.m none ((xs.length + ys.length : Nat) : Int)) ⟨⟨.loc H.next, true, .arr E (xs ++ ys)⟩ :: H.ents, H.next + 1⟩ := by
  have h' := natK_out h
  clear h
  obtain ⟨h1, h⟩ := h'
  have h := pushK_out h
  exact ⟨h1, natK_out h⟩
theorem loc_lt (n : Nat) {m : Nat} {i : Option Int} {l : Int} : (AV.sl (.loc n) m i l).lt (n + 1) := fun k hk => by simp [Blk.root] at hk; omega
theorem moveL_sub {b2 b1 : Blk} {ρin ρout : Loc} (i : Int) (j : Nat) : SameUnder ρin (moveL b2 b1 ρin ρout) (.sub b1 i j) (.sub b2 i j) := by
  intro p
  have hu : Under b2 (ext (.sub b2 i j) p) := by
    rcases ext_under b2 p (.sub b2 i j) (.inr (.inl rfl)) with ⟨q, _⟩ | q
    · exfalso
      have hu : ∀ (p : List (Int × Nat)) (x : Blk), Under b2 x → Under b2 (ext x p) := by
        intro p
        induction p with
        | nil => intro x hx; exact hx
        | cons a p ih => intro x hx; exact ih _ (.inr hx)
      have := hu p (.sub b2 i j) (.inl rfl)
      rw [q] at this
      exact not_under_self b2 this
    · exact q
  simp only [moveL, if_pos hu]
  have hne : Blk.sub b2 i j ≠ b2 := fun q => by
    have : Under b2 (Blk.sub b2 i j) := .inl rfl
    rw [q] at this
    exact not_under_self b2 this
  rw [rebase_ext p (.sub b2 i j) (.sub b1 i j) (.inr (.inl rfl)) (by simp only [rebase]; rw [if_neg hne, rebase_self])]
theorem moveL_zero {b2 b1 : Blk} {ρ ρ1 ρ' : Loc} {n1 n2 : Nat} (h1 : b1.root = some n1) (h2 : b2.root = some n2) (ho : Off b1 ρ ρ1) (ha : Agree 0 ρ ρ') : Agree 0 ρ1 (moveL b2 b1 ρ1 ρ') := fun b hb => by
  have hr : b.root = none := by cases h : b.root with | none => rfl | some n => exact absurd (hb n h) (by omega)
  rw [moveL_off b2 b1 ρ1 ρ' b fun q => (by rw [← q.root, hr] at h2; simp at h2), ha b hb, ho b fun q => (by rw [← q.root, hr] at h1; simp at h1)]
theorem nest_snoc {α : Type} {m : Nat} {d : α} {g : (Nat → Blk) → α → List AV} {s : List Nat} {f : α → Nat → Cont} {xs : List α} {b b2 : Blk} {F G : Foot} {ρ ρ' : Loc} {k2 : Nat} {z2 : Nat × Nat} {arr2 : Array Value} {T2 : TypeId} {fz2 : Nat × Nat} {cs : List AV}
    (h : HoldsE ρ N w true (.nest m d g s f xs none) b F) (hok : ContOk S (.nest m d g s f xs none)) (hlt : b.lt N) (ha : Agree N ρ ρ') (hN : N ≤ N') {n1 n2 : Nat} (hr1 : b.root = some n1) (hr2 : b2.root = some n2)
    (hb2 : ρ' b2 = some (k2, z2)) (h2 : w'.heap[k2]? = some (.cells arr2 T2 fz2)) (hz2 : z2.1 + z2.2 ≤ arr2.size) (hf2 : FzOk fz2 arr2)
    (hkeep : KeepF (fun k c => F k c ∧ ¬ regF (ρ b) k c) w w') (hdis : ∀ k c, regF (ρ' b2) k c → regF (ρ b) k c ∨ ¬ F k c)
    (hold : ∀ i, i < xs.length → ∀ k z arr T fz, ρ b = some (k, z) → w.heap[k]? = some (.cells arr T fz) → ((own arr2 z2).toList.drop (i * m)).take m = ((own arr z).toList.drop (i * m)).take m)
    (hsz : (xs.length + 1) * m ≤ z2.2) (hcl : cs.length = m) (hcs : VRels ρ' cs (((own arr2 z2).toList.drop (xs.length * m)).take m)) (hcn : AV.lts N' cs) (hG : ∀ k c, F k c → G k c) (hG2 : ∀ k c, regF (ρ' b2) k c → G k c) :
    HoldsE ρ' N' w' true (.nest m d g s f xs (some ((xs.length : Int), cs))) b2 G := by
  obtain ⟨⟨ρ1, ho, hh⟩, _⟩ := h
  obtain ⟨⟨hl, hreg⟩, Fs, g1, g2, g3⟩ := hh
  obtain ⟨g4, g5⟩ := g3 rfl
  have hself : ρ1 b = ρ b := ho b (not_under_self b)
  have h0 : Agree 0 ρ1 (moveL b2 b ρ1 ρ') := moveL_zero hr1 hr2 ho fun x hx => ha x (hx.mono (Nat.zero_le _))
  have hself2 : moveL b2 b ρ1 ρ' b2 = ρ' b2 := moveL_off _ _ _ _ b2 (not_under_self b2)
  obtain ⟨⟨T0, hT⟩, hsub⟩ := hok
  have hraw : ∀ x j vs, f x j ≠ .raw vs := fun x j vs q => by have := (hsub x j).2; rw [q] at this; exact this
  have hown2 := own_size (arr := arr2) (z := z2) hz2
  refine ⟨⟨moveL b2 b ρ1 ρ', moveL_off _ _ _ _, ⟨?_, fun k c q => hG2 k c (hself2 ▸ q)⟩, Fs, fun i p1 p2 j p3 => ?_, fun i p1 p2 j p3 k c q => hG k c (g2 i p1 trivial j p3 k c q), fun _ => ⟨fun i p1 p2 j p3 k c q q2 => ?_, fun i p1 p2 j p3 i2 r1 r2 j2 r3 => g5 i p1 trivial j p3 i2 r1 trivial j2 r3⟩⟩, ?_⟩
  · simp only [Lies, hself2, hb2]
    refine ⟨arr2, T2, fz2, h2, hz2, fun _ => hf2, ?_, fun i hi hv => ?_⟩
    · simp only [totalN, Int.toNat_natCast]
      rw [Nat.max_eq_right (by omega), hown2]; exact hsz
    · cases hb : ρ b with
      | none =>
        rw [← hself] at hb
        simp only [Lies, hb] at hl
        rw [hl.1] at hi; simp at hi
      | some kz =>
        obtain ⟨k, z⟩ := kz
        have hb1 := hself.trans hb
        simp only [Lies, hb1] at hl
        obtain ⟨arr, T, fz, e1, e2, e3, e4, e5⟩ := hl
        rw [hold i hi k z arr T fz hb e1]
        exact hT.ren _ _ _ _ _ _ (fun j _ => (moveL_sub (i : Int) j).self) (e5 i hi trivial)
  · refine Holds.ren h0 (hsub _ _).1 (hraw _ _) (moveL_sub (i : Int) j) (N := N) ?_
    refine Holds.turn (hsub _ _).1 (g1 i p1 trivial j p3) hlt.sub (.refl _ _) (Nat.le_refl _) (hkeep.mono fun k c q => ⟨g2 i p1 trivial j p3 k c q, fun q2 => g4 i p1 trivial j p3 k c (hself ▸ q2) q⟩)
  · rcases hdis k c (hself2 ▸ q) with q3 | q3
    · exact g4 i p1 trivial j p3 k c (hself ▸ q3) q2
    · exact q3 (g2 i p1 trivial j p3 k c q2)
  · exact ⟨by omega, by simp only; omega, hcl, hcn, k2, z2, arr2, T2, fz2, hb2, h2, by simpa using hcs⟩
theorem nest_first {α : Type} {m : Nat} {d : α} {g : (Nat → Blk) → α → List AV} {s : List Nat} {f : α → Nat → Cont} {b2 : Blk} {ρ' : Loc} {k2 : Nat} {z2 : Nat × Nat} {arr2 : Array Value} {T2 : TypeId} {fz2 : Nat × Nat} {cs : List AV} {F : Foot}
    (hb2 : ρ' b2 = some (k2, z2)) (h2 : w'.heap[k2]? = some (.cells arr2 T2 fz2)) (hz2 : z2.1 + z2.2 ≤ arr2.size) (hf2 : FzOk fz2 arr2) (hsz : m ≤ z2.2) (hcl : cs.length = m) (hcs : VRels ρ' cs ((own arr2 z2).toList.take m)) (hcn : AV.lts N' cs) (hF : ∀ k c, regF (ρ' b2) k c → F k c) :
    HoldsE ρ' N' w' true (.nest m d g s f [] (some (0, cs))) b2 F := by
  have hown2 := own_size (arr := arr2) (z := z2) hz2
  refine ⟨⟨ρ', .refl _ _, ⟨?_, hF⟩, fun _ _ _ _ => False, fun i hi => by simp at hi, fun i hi => by simp at hi, fun _ => ⟨fun i hi => by simp at hi, fun i hi => by simp at hi⟩⟩, ?_⟩
  · simp only [Lies, hb2]
    refine ⟨arr2, T2, fz2, h2, hz2, fun _ => hf2, ?_, fun i hi => by simp at hi⟩
    simp only [totalN, List.length_nil, Int.toNat_zero]
    rw [Nat.max_eq_right (by omega), hown2]; omega
  · exact ⟨by omega, by simp, hcl, hcn, k2, z2, arr2, T2, fz2, hb2, h2, by simpa using hcs⟩
theorem info_ofN {e : TypeId} {α : Type} {m : Nat} {d : α} {g : (Nat → Blk) → α → List AV} {s : List Nat} {f : α → Nat → Cont} (hT : NestOk S.P e m d g s f) : ∃ i z, S.P.info? e = some i ∧ i.size = m ∧ i.zero = some z ∧ bytesA S e = i.bytes ∧ z.cells.size = m := by
  obtain ⟨zl, hz, hzr⟩ := hT.zero
  have hm := hT.siz
  cases hi : S.P.info? e with
  | none => rw [hi] at hm; simp at hm
  | some i =>
    rw [hi] at hm hz
    simp at hm hz
    obtain ⟨z, hz, hz2⟩ := hz
    refine ⟨i, z, rfl, hm, hz, by simp [bytesA, hi], ?_⟩
    have := (hzr (fun _ => none) (fun _ => .loc 0) fun _ _ => rfl).length
    rw [hT.len, ← hz2] at this
    simpa using this
theorem one_sound {U : TypeId} {m : Nat} {x : AV} {rx : Value} {K : List AV → Prop} (hH : HRel S ρ H w) (h : oneA S U m x H K) (hx : VRel ρ x rx) :
    ∃ cs rs, K cs ∧ cs.length = m ∧ VRels ρ cs rs ∧ AV.lts H.next cs ∧ flatL cs = true ∧ (∃ el, S.P.underlying U = some (.slice el)) ∧ (∀ w0 : World, (Builtin.lenOf rx).run S.P w0 = .ok 1 w0) ∧
      ∀ w0 : World, w0.heap = w.heap → (Builtin.firstCells m 1 rx).run S.P w0 = .ok rs.toArray w0 := by
  unfold oneA at h
  split at h
  · rename_i el hU
    split at h
    · rename_i b m' n
      split at h
      · rename_i b' rw' c hg
        split at h
        · rename_i cs
          split at h
          · rename_i hcl hm hflat
            have hcl := Nat.eq_of_beq_eq_true hcl
            have hm := Nat.eq_of_beq_eq_true hm
            subst hm
            obtain ⟨rfl, hK⟩ := h
            obtain ⟨hmem, hkey⟩ := getE_mem hg
            simp only at hkey
            subst hkey
            have hl := (hH.holds _ hmem).raw.1
            rcases hx with ⟨_, e2, _⟩ | ⟨k, z, cap, off, e1, e2, e3, e4, e5, e6, e7, rfl⟩
            · omega
            · simp only [Lies, e1] at hl
              obtain ⟨arr, T, fz, g1, g2, g3, g4, g5, g6⟩ := hl
              simp only [Option.getD_none, Int.toNat_zero, Nat.zero_mul, Nat.zero_add] at e6 e7
              have e4 : 1 ≤ cap := e4
              have hoff : off = z.1 := by rcases e7 with q | q; omega; exact q
              subst hoff
              have hll := g5.length
              refine ⟨cs, (own arr z).toList.take cs.length, hK, hcl, g5, g6, hflat, ⟨_, hU⟩, fun w0 => rfl, fun w0 hw => ?_⟩
              have := run_loadCells_list (P := S.P) w0 ⟨k, z.1, none⟩ ((own arr z).toList.take cs.length) (fun j v hv => by
                rw [List.getElem?_take] at hv
                split at hv
                · have hcell : w0.cell? ⟨k, z.1 + j, none⟩ = some v := by
                    simp only [World.cell?, hw, g1]
                    simpa using own_get hv
                  simp only [Addr.add]
                  split
                  · rename_i q; subst q; exact hcell
                  · simpa using hcell
                · simp at hv)
              rw [hll] at this
              simpa [Builtin.firstCells, hcl] using this
          · exact h.elim
        · exact h.elim
      · exact h.elim
    · exact h.elim
  · exact h.elim
theorem appendNK_out {e : TypeId} {α : Type} {m : Nat} {d : α} {g : (Nat → Blk) → α → List AV} {s : List Nat} {f : α → Nat → Cont} {xs : List α} {cs : List AV} {H : Heap} {K : AV → Heap → Prop} (h : appendNK S e m d g s f xs cs H K) :
    (((xs.length + 1 : Nat) : Int) * (bytesA S e : Int) ≤ 140737488355328 ∧ ((xs.length + 1 : Nat) : Int) ≤ 140737488355328) ∧
    K (.sl (.loc H.next) m none ((xs.length + 1 : Nat) : Int)) ⟨⟨.loc H.next, true, .nest m d g s f xs (some ((xs.length : Int), cs))⟩ :: H.ents, H.next + 1⟩ := by
  have h' := natK_out h
  clear h
  obtain ⟨h1, h⟩ := h'
  have h := pushK_out h
  exact ⟨h1, natK_out h⟩
theorem room_store {k n : Nat} {zz : Nat × Nat} {arr0 : Array Value} {TT : TypeId} {fz : Nat × Nat} {news : List Value} (g1 : w.heap[k]? = some (.cells arr0 TT fz)) (g2 : zz.1 + zz.2 ≤ arr0.size) (g3 : FzOk fz arr0) (hfit : n + news.length ≤ zz.2) (hone : ∀ v ∈ news, v.oneCell' = true) :
    ∃ w'' arr', (storeCells (Addr.add ⟨k, zz.1, none⟩ n) news).run S.P w = .ok () w'' ∧ w''.heap[k]? = some (.cells arr' TT fz) ∧ arr'.size = arr0.size ∧
      (own arr' zz).toList = (own arr0 zz).toList.take n ++ (news ++ (own arr0 zz).toList.drop (n + news.length)) ∧ Kept (fun k' c => ¬ (k' = k ∧ inZ zz c)) w w'' ∧ w''.heap.size = w.heap.size ∧ w''.os = w.os ∧ w''.tape = w.tape ∧ w''.output = w.output := by
  by_cases hz : news = []
  · subst hz
    exact ⟨w, arr0, by simp [storeCells], g1, rfl, by simp, .refl _ _, rfl, rfl, rfl, rfl⟩
  · have hpos : 0 < news.length := List.length_pos_iff.2 hz
    obtain ⟨w'', arr', r1, r2, r3, r4, r5, r6, r7, r8⟩ := store_run S.P k (zz.1 + n) TT fz news 0 arr0 w g1 (by omega) (fun y q1 q2 => by unfold FzOk at g3; omega) hone
    simp only [Nat.add_zero] at r3
    have r3' := own_splice (z := zz) (q := n) (by omega) g2 r3
    have hsize0 : arr'.size = arr0.size := by
      have := congrArg List.length r3
      simp only [List.length_append, List.length_take, List.length_drop, Array.length_toList] at this
      omega
    refine ⟨w'', arr', ?_, r2, hsize0, r3', Kept.one g1 r2 hsize0 (fun q => by unfold FzOk at q ⊢; rw [hsize0]; exact q) (by omega) (fun c hc => ?_) r4, r5, r6, r7, r8⟩
    · have hadd : (Addr.add ⟨k, zz.1, none⟩ n) = ⟨k, zz.1 + n, none⟩ := by
        simp only [Addr.add]; split
        · rename_i q; simp [q]
        · simp
      rw [hadd]; exact r1
    · have hcz : c < zz.1 + n ∨ zz.1 + n + news.length ≤ c := by unfold inZ at hc; omega
      rw [← Array.getElem?_toList, ← Array.getElem?_toList, r3]
      have l1 : (arr0.toList.take (zz.1 + n)).length = zz.1 + n := by simp; omega
      rcases hcz with q | q
      · rw [List.getElem?_append_left (by omega), List.getElem?_take, if_pos q]
      · rw [List.getElem?_append_right (by omega), List.getElem?_append_right (by omega), List.getElem?_drop, l1]
        congr 1; omega
theorem load_first {k : Nat} {zz : Nat × Nat} {arr0 : Array Value} {TT : TypeId} {fz : Nat × Nat} {n : Nat} (g1 : w.heap[k]? = some (.cells arr0 TT fz)) (g2 : zz.1 + zz.2 ≤ arr0.size) (hn : n ≤ zz.2) {w0 : World} (hw : w0.heap = w.heap) :
    (loadCells ⟨k, zz.1, none⟩ n).run S.P w0 = .ok ((own arr0 zz).toList.take n).toArray w0 := by
  have hl : ((own arr0 zz).toList.take n).length = n := by simp [own_size g2]; omega
  have := run_loadCells_list (P := S.P) w0 ⟨k, zz.1, none⟩ ((own arr0 zz).toList.take n) (fun j v hv => by
    rw [List.getElem?_take] at hv
    split at hv
    · have hcell : w0.cell? ⟨k, zz.1 + j, none⟩ = some v := by
        simp only [World.cell?, hw, g1]
        simpa using own_get hv
      simp only [Addr.add]
      split
      · rename_i q; subst q; exact hcell
      · simpa using hcell
    · simp at hv)
  rw [hl] at this
  exact this
theorem vals_zero {e : TypeId} {α : Type} {E : Enc α} (hE : EncOk S.P e E) {z : Value} {i : TypeInfo} (hi : S.P.info? e = some i) (hz : i.zero = some z) (n : Nat) : Vals ρ N E (List.replicate n E.d) (Builtin.zeroCells z.cells n).toList := by
  obtain ⟨zl, hz1, hz2⟩ := hE.zero
  rw [hi] at hz1
  simp [hz] at hz1
  subst hz1
  have hr := hz2 ρ
  have hm : z.cells.toList.length = E.m := by rw [hr.length, hE.len]
  have hlist : (Builtin.zeroCells z.cells n).toList = (List.replicate n z.cells.toList).flatten := zeroCells_list _ _
  rw [hlist]
  refine ⟨by simp [hm], fun t ht => ?_⟩
  rw [List.length_replicate] at ht
  rw [flatten_piece hm (by simpa using ht)]
  simp only [List.getD_eq_getElem?_getD, List.getElem?_replicate, if_pos ht, Option.getD_some]
  exact hr
def AppRuns (S : Seat) (w : World) (T U ty e : TypeId) (i : TypeInfo) (z ra rx : Value) (rs : List Value) (m : Nat) : Prop :=
  (∀ (base : Option Addr) (n cap : Nat) (w'' : World), ra = .slice base n cap → m * i.bytes ≤ 140737488355328 → n + m ≤ cap → (match base with | none => w'' = w | some a => (storeCells (a.add (n * i.size)) rs).run S.P w = .ok () w'') →
    (Builtin.append_ #[T, U] ty #[ra, rx]).run S.P w = .ok (.slice base (n + m) cap) w'') ∧
  ∀ (base : Option Addr) (n cap : Nat) (olds : List Value), ra = .slice base n cap → (Builtin.firstCells i.size n ra).run S.P w.drew = .ok olds.toArray w.drew → cap < n + m → n ≤ cap → (n + m) * i.bytes ≤ 140737488355328 → n + m ≤ 140737488355328 →
    (Builtin.append_ #[T, U] ty #[ra, rx]).run S.P w =
      .ok (.slice (some ⟨w.heap.size, 0, none⟩) (n + m) (grownCap w (n + m) cap e)) (w.drew.alloc (.cells (olds ++ rs ++ (Builtin.zeroCells z.cells (grownCap w (n + m) cap e - (n + m))).toList).toArray e))
theorem appRuns_src {T U ty e : TypeId} {i : TypeInfo} {z ra rx : Value} {rs : List Value} {m : Nat} (hT : S.P.underlying T = some (.slice e)) (hU : (∃ el, S.P.underlying U = some (.slice el)) ∨ S.P.underlying U = some .string) (hi : S.P.info? e = some i) (hz : i.zero = some z)
    (hl : ∀ w : World, (Builtin.lenOf rx).run S.P w = .ok m w) (hf0 : (Builtin.firstCells i.size m rx).run S.P w = .ok rs.toArray w) (hf1 : (Builtin.firstCells i.size m rx).run S.P w.drew = .ok rs.toArray w.drew) : AppRuns S w T U ty e i z ra rx rs m :=
  ⟨fun base _ _ _ hs _ hroom hst => append_room hT hU hi hs (hl w) hf0 hroom (by cases base <;> exact hst), fun _ _ _ _ hs ho hroom hle hb h63 => append_grow hT hU hi hz hs (hl w) hf1 ho hroom hle hb h63⟩
set_option maxHeartbeats 1000000 in
theorem appRuns_zero {T U ty e : TypeId} {i : TypeInfo} {z ra : Value} {n : Int} {k : IntKind} (hT : S.P.underlying T = some (.slice e)) (hU : S.P.underlying U = some (.int k)) (hi : S.P.info? e = some i) (hz : i.zero = some z) (hzp : 0 < i.size) (h0 : 0 ≤ n) (h1 : n ≤ 140737488355328) :
    AppRuns S w T U ty e i z ra (.int .i64 n) (Builtin.zeroCells z.cells n.toNat).toList n.toNat := by
  have hw : IntKind.i64.wrap n = n := wrap_in (by show -9223372036854775808 ≤ n ∧ n ≤ 9223372036854775807; omega)
  have hn : ¬ n < 0 := by omega
  have hnn : ((n.toNat : Nat) : Int) = n := Int.toNat_of_nonneg h0
  have hsz : (sizeOf e).run S.P w = .ok i.size w := by simp [sizeOf, typeInfo, hi]
  have has : ∀ w : World, (asInt (.int .i64 n)).run S.P w = .ok n w := fun w => by simp [asInt, asIntOf]
  have hnz : n.toNat * i.size = 0 ↔ n.toNat = 0 := by simp [Nat.mul_eq_zero, Nat.ne_of_gt hzp]
  refine ⟨?_, ?_⟩
  · intro base m cap w'' hs hB hroom hst
    have hB' : ¬ (281474976710656 < n * (i.bytes : Int)) := by
      have : ((n.toNat * i.bytes : Nat) : Int) = n * (i.bytes : Int) := by rw [Int.natCast_mul, hnn]
      omega
    subst hs
    cases base with
    | none =>
      simp only at hst
      subst hst
      simp [Builtin.append_, run_und hT, run_und hU, hsz, has, hw, hn, hB', hnz, hroom, typeInfo, hi, zeroValue, hz]
    | some a =>
      simp only at hst
      simp [Builtin.append_, run_und hT, run_und hU, hsz, has, hw, hn, hB', hnz, hroom, typeInfo, hi, zeroValue, hz]
      by_cases hle0 : n ≤ 0
      · rw [if_pos hle0]
        rw [show n.toNat = 0 by omega] at hst ⊢
        have hst : (storeCells (a.add (m * i.size)) []).run S.P w = .ok () w'' := by simpa [Builtin.zeroCells] using hst
        rw [hst]
        rfl
      · rw [if_neg hle0, hst]
        rfl
  · intro base m cap olds hs ho hroom hle hb h63
    have hB' : ¬ (281474976710656 < n * (i.bytes : Int)) := by
      have : ((n.toNat * i.bytes : Nat) : Int) = n * (i.bytes : Int) := by rw [Int.natCast_mul, hnn]
      have : n.toNat * i.bytes ≤ (m + n.toNat) * i.bytes := Nat.mul_le_mul_right _ (by omega)
      omega
    subst hs
    have hroom' : ¬ (m + n.toNat ≤ cap) := by omega
    have h63' : ¬ (9223372036854775807 < ((m : Int) + ((n.toNat : Nat) : Int))) := by omega
    have h48 := growslice_fits hroom hb
    have h48' : ¬ (281474976710656 < Builtin.nextslicecap (m + n.toNat) cap * i.bytes) := by omega
    have h63'' : ¬ (9223372036854775807 < (m : Int) + max n 0) := by omega
    have hpos : ¬ n ≤ 0 := by omega
    simp [Builtin.append_, run_und hT, run_und hU, hsz, has, hw, hn, hB', hnz, hroom', h63', h63'', hpos, h48', typeInfo, hi, zeroValue, hz, Question.forced, ho, newRow, grownCap]
    congr 2
    apply Array.ext'
    simp
theorem srcZ_sound (hS : SeatOk S) {T U ty e : TypeId} {α : Type} {E : Enc α} {i : TypeInfo} {z ra rx : Value} {x : AV} {K : List α → Prop} (hE : EncOk S.P e E) (hH : HRel S ρ H w) (hT : S.P.underlying T = some (.slice e)) (hi : S.P.info? e = some i) (him : i.size = E.m) (hiz : i.zero = some z)
    (h : srcZ S U E x H K) (hx : VRel ρ x rx) : ∃ (ys : List α) (rs : List Value), K ys ∧ Vals ρ H.next E ys rs ∧ AppRuns S w T U ty e i z ra rx rs ys.length := by
  unfold srcZ at h
  split at h
  · rename_i k hU
    split at h
    · rename_i n
      obtain ⟨⟨h0, h1⟩, hK⟩ := h
      have hx : rx = .int .i64 n := hx
      subst hx
      refine ⟨_, _, hK, vals_zero hE hi hiz n.toNat, ?_⟩
      rw [List.length_replicate]
      exact appRuns_zero hT hU hi hiz (by rw [him]; exact hE.pos) h0 h1
    · exact h.elim
  · obtain ⟨ys, rs, h', hv, hU, hlen, hmax, hfirst⟩ := src_sound (N := H.next) hE hH h hx
    have hall : rs.take (ys.length * E.m) = rs := List.take_of_length_le (by rw [hv.1]; omega)
    have hf0 : (Builtin.firstCells i.size ys.length rx).run S.P w = .ok rs.toArray w := by rw [him, hfirst _ w rfl (Nat.le_refl _), hall]
    have hf1 : (Builtin.firstCells i.size ys.length rx).run S.P w.drew = .ok rs.toArray w.drew := by rw [him, hfirst _ w.drew (drew_heap w) (Nat.le_refl _), hall]
    exact ⟨ys, rs, h', hv, appRuns_src hT hU hi hiz hlen hf0 hf1⟩
set_option maxHeartbeats 1000000 in
theorem append_sound (hS : SeatOk S) {T U ty : TypeId} {a x : AV} {ra rx : Value} {K : AV → Heap → Prop} (hH : HRel S ρ H w) (ha : VRel ρ a ra) (hx : VRel ρ x rx)
    (h : appendA S T U a x H K) : AppOp S ρ H w (Builtin.append_ #[T, U] ty #[ra, rx]) K := by
  unfold appendA at h
  split at h
  · rename_i e hT
    split at h
    · rename_i α E hh
      have hE : EncOk S.P e E := hS.hint _ _ hh
      obtain ⟨i, z, hi, him, hiz, hby⟩ := info_of hE
      obtain ⟨ys, rs, h', hv, hRoom, hGrow⟩ := srcZ_sound (ty := ty) (ra := ra) hS hE hH hT hi him hiz h hx
      clear h
      have h := h'
      clear h'
      have grow : ∀ (base : Option Addr) (cap : Nat) (xs : List α) (olds : List Value) (l : List Ent), l.Sublist H.ents → ra = .slice base xs.length cap → xs.length ≤ cap → cap < xs.length + ys.length → Vals ρ H.next E xs olds →
          (Builtin.firstCells i.size xs.length ra).run S.P w.drew = .ok olds.toArray w.drew → appendK S E e xs ys ⟨l, H.next⟩ K → AppOp S ρ H w (Builtin.append_ #[T, U] ty #[ra, rx]) K := by
        intro base cap xs olds l hl hra hle hroom ho hof hK
        obtain ⟨⟨hb, hb2⟩, hK⟩ := appendK_out hK
        rw [hby] at hb
        have hb' : (xs.length + ys.length) * i.bytes ≤ 140737488355328 := Int.ofNat_le.1 (by rw [Int.natCast_mul]; exact hb)
        have hb2' : xs.length + ys.length ≤ 140737488355328 := by omega
        have hrun := hGrow base xs.length cap olds hra hof hroom hle hb' hb2'
        have hcapge : xs.length + ys.length ≤ grownCap w (xs.length + ys.length) cap e := by unfold grownCap Question.cut; exact Nat.le_add_right _ _
        have hcaple : grownCap w (xs.length + ys.length) cap e ≤ 9223372036854775807 := by
          have := grownCap_le_maxLen w (xs.length + ys.length) cap e (by unfold maxLen; omega)
          unfold maxLen at this
          exact this
        have hvals := Vals.append hE ho hv
        generalize harr : (olds ++ rs ++ (Builtin.zeroCells z.cells (grownCap w (xs.length + ys.length) cap e - (xs.length + ys.length))).toList).toArray = arr at hrun
        have hlist : arr.toList = (olds ++ rs) ++ (Builtin.zeroCells z.cells (grownCap w (xs.length + ys.length) cap e - (xs.length + ys.length))).toList := by rw [← harr]
        have hzs : z.cells.size = E.m := by
          obtain ⟨zl, hz, hzr⟩ := hE.zero
          rw [hi] at hz
          simp [hiz] at hz
          subst hz
          have := (hzr ρ).length
          rw [hE.len] at this
          simpa using this
        have hsize : arr.size = grownCap w (xs.length + ys.length) cap e * E.m := by
          have l1 := hvals.1
          have l2 : (Builtin.zeroCells z.cells (grownCap w (xs.length + ys.length) cap e - (xs.length + ys.length))).toList.length = (grownCap w (xs.length + ys.length) cap e - (xs.length + ys.length)) * E.m := by
            rw [Array.length_toList, size_zeroCells, hzs]
          have l3 := congrArg List.length hlist
          rw [List.length_append, l1, l2, List.length_append, ← Nat.add_mul, Array.length_toList] at l3
          rw [l3]; congr 1; omega
        have hpush := hH.push (c := .arr E (xs ++ ys)) (Grew.drew_alloc w (.cells arr e)) (.inl rfl) ⟨e, hE⟩ (.arr fun b => hvals.lie hE hlist b)
        have hafter := hpush.sub (l := ⟨.loc H.next, true, .arr E (xs ++ ys)⟩ :: l) (hl.cons_cons _)
        refine ⟨_, _, _, _, _, hrun, hK, ?_, loc_lt _, hafter⟩
        refine sl_fresh (Lay.set_self _ _ _ _) rfl (by omega) ?_ _ hcapge hcaple ?_
        · rw [hsize]; exact Nat.mul_le_mul_right _ hcapge
        · rw [hsize]; omega
      have nothing : ∀ (base : Option Addr) (l : List Ent), l.Sublist H.ents → ra = .slice base 0 0 → ys = [] → appendK S E e [] ys ⟨l, H.next⟩ K → AppOp S ρ H w (Builtin.append_ #[T, U] ty #[ra, rx]) K := by
        rintro base l hl hra rfl hK
        obtain ⟨_, hK⟩ := appendK_out hK
        have hrs : rs = [] := List.eq_nil_of_length_eq_zero (by rw [hv.1]; simp)
        subst hrs
        have hrun := hRoom base 0 0 w hra (by simp) (by simp) (by cases base <;> simp [storeCells])
        have hnone := hH.nothing (c := .arr E ([] ++ [])) (by simp [Cont.empty]) trivial ⟨e, hE⟩
        have hafter := hnone.sub (l := ⟨.loc H.next, true, .arr E ([] ++ [])⟩ :: l) (hl.cons_cons _)
        exact ⟨_, _, _, _, _, hrun, hK, .inl ⟨Lay.set_self _ _ _ _, rfl, rfl, base, rfl⟩, loc_lt _, hafter⟩
      have fromNil : ∀ (base : Option Addr) (l : List Ent), l.Sublist H.ents → ra = .slice base 0 0 → appendK S E e [] ys ⟨l, H.next⟩ K → AppOp S ρ H w (Builtin.append_ #[T, U] ty #[ra, rx]) K := by
        intro base l hl hra hK
        by_cases hy : ys = []
        · exact nothing base l hl hra hy hK
        · have : 0 < ys.length := List.length_pos_iff.2 hy
          refine grow base 0 [] [] l hl hra (by simp) (by simpa using this) ⟨by simp, fun t ht => by simp at ht⟩ ?_ hK
          rw [hra]
          cases base with
          | none => simp [Builtin.firstCells]
          | some a => simp [Builtin.firstCells, loadCells, loadCellsFrom]
      have behind : ∀ (b : Blk) (io : Option Int) (xs0 xs : List α), getE H.ents b = some ⟨b, true, .arr E xs0⟩ → xs0.take xs.length = xs → io.getD 0 = 0 → VRel ρ (.sl b E.m io xs.length) ra → appendK S E e xs ys ⟨delE H.ents b, H.next⟩ K → AppOp S ρ H w (Builtin.append_ #[T, U] ty #[ra, rx]) K := by
        intro b io xs0 xs hg hxs0 hio ha h
        obtain ⟨hmem, _⟩ := getE_mem hg
        have hhold := (hH.holds _ hmem).arr
        have hlies := hhold.1
        rcases ha with ⟨e1, e2, e3, base, hra⟩ | ⟨k, zz, cap, off, e1, e2, e3, e4, e5, e6, e7, hra⟩
        · have : xs = [] := List.eq_nil_of_length_eq_zero (by omega)
          subst this
          exact fromNil base _ (delE_sub _ _) hra h
        · simp only [Int.toNat_natCast] at e4 hra
          rw [hio] at e6 e7
          simp only [Int.toNat_zero, Nat.zero_mul, Nat.zero_add, Nat.add_zero] at e6 e7
          simp only [Lies, e1] at hlies
          obtain ⟨arr0, TT, fz, g1, g2, g3, g4⟩ := hlies
          have g3 := g3 trivial
          have hsz2 := own_size g2
          have hle0 : xs.length ≤ xs0.length := by have := congrArg List.length hxs0; simp at this; omega
          have hxs : Vals ρ H.next E xs ((own arr0 zz).toList.take (xs.length * E.m)) := by
            have := (lie_vals hE g4).take xs.length
            rw [hxs0] at this
            have hmm : xs.length * E.m ≤ xs0.length * E.m := Nat.mul_le_mul_right _ hle0
            rwa [List.take_take, Nat.min_eq_left hmm] at this
          by_cases hroom : xs.length + ys.length ≤ cap
          · obtain ⟨⟨hbb, _⟩, hK⟩ := appendK_out h
            rw [hby] at hbb
            have hbb' : (xs.length + ys.length) * i.bytes ≤ 140737488355328 := Int.ofNat_le.1 (by rw [Int.natCast_mul]; exact hbb)
            have hyb : ys.length * i.bytes ≤ 140737488355328 := Nat.le_trans (Nat.mul_le_mul_right _ (by omega)) hbb'
            have hone := hv.one hE
            have hfit : (xs.length + ys.length) * E.m ≤ cap * E.m := Nat.mul_le_mul_right _ hroom
            rw [Nat.add_mul] at hfit
            have hrs := hv.1
            obtain ⟨w'', arr', r1, r2, hsize0, r3, hkept, r5, r6, r7, r8⟩ := room_store (S := S) (n := xs.length * E.m) (news := rs) g1 g2 g3 (by omega) hone
            have hoff : cap ≠ 0 → off = zz.1 := fun q => by rcases e7 with p | p; exact absurd p q; exact p
            have hst : (match (some (⟨k, off, none⟩ : Addr)) with | none => w'' = w | some a => (storeCells (a.add (xs.length * i.size)) rs).run S.P w = .ok () w'') := by
              by_cases hcap : cap = 0
              · have hy0 : ys = [] := List.eq_nil_of_length_eq_zero (by omega)
                have hrs0 : rs = [] := List.eq_nil_of_length_eq_zero (by rw [hv.1, hy0]; simp)
                subst hrs0
                simp only [storeCells] at r1 ⊢
                exact r1
              · rw [hoff hcap, him]; exact r1
            have hrun := hRoom _ _ _ _ hra hyb hroom hst
            have hvals := Vals.append hE hxs hv
            have hlist : (own arr' zz).toList = ((own arr0 zz).toList.take (xs.length * E.m) ++ rs) ++ (own arr0 zz).toList.drop (xs.length * E.m + rs.length) := by rw [r3, List.append_assoc]
            have ha2 := Lay.set_agree ρ H.next (ρ b) (ρ.foot b)
            have hl : HoldsE (ρ.set H.next (ρ b) (ρ.foot b)) (H.next + 1) w'' true (.arr E (xs ++ ys)) (.loc H.next) (ρ.foot b) := by
              refine ⟨?_, fun k c q => hhold.2 k c (by rw [Lay.set_self] at q; exact q)⟩
              simp only [Lies, Lay.set_self, e1]
              refine ⟨arr', TT, fz, r2, by omega, fun _ => by unfold FzOk at g3 ⊢; rw [hsize0]; exact g3, ?_⟩
              exact ElemsLie.agree (hvals.lie hE hlist (.loc H.next)) (by rw [← e1]; exact ha2) (Nat.le_succ _)
            have hafter := hH.move (c := .arr E (xs ++ ys)) hg rfl ⟨e, hE⟩ (fun k' c q => hhold.2 k' c (by have q := Classical.not_not.1 q; exact ⟨zz, by rw [q.1]; exact e1, q.2⟩)) hkept (by omega) hl r6 r7 r8
            refine ⟨_, _, _, _, _, hrun, hK, .inr ⟨k, zz, cap, off, by rw [Lay.set_self, e1], by simp, by omega, by rw [Int.toNat_natCast]; exact hroom, e5, by simpa using e6, by simpa using e7, by rw [Int.toNat_natCast]⟩, loc_lt _, hafter⟩
          · have hle : xs.length ≤ cap := e4
            refine grow (some ⟨k, off, none⟩) cap xs ((own arr0 zz).toList.take (xs.length * E.m)) _ (delE_sub _ _) hra hle (by omega) hxs ?_ h
            rw [hra, him]
            by_cases hcap : cap = 0
            · have hx0 : xs = [] := List.eq_nil_of_length_eq_zero (by omega)
              subst hx0
              simp [Builtin.firstCells, loadCells, loadCellsFrom]
            · have hoff : off = zz.1 := by rcases e7 with q | q; exact absurd q hcap; exact q
              subst hoff
              have hmm : xs.length * E.m ≤ cap * E.m := Nat.mul_le_mul_right _ hle
              exact load_first (S := S) g1 g2 (by omega) (drew_heap w)
      split at h
      · obtain ⟨b, hb⟩ := ha
        exact fromNil b H.ents (List.Sublist.refl _) hb h
      · rename_i b m io n
        split at h
        · rename_i b' c hg
          obtain ⟨hmem, hkey⟩ := getE_mem hg
          have hkey := hkey.symm
          simp only at hkey
          subst hkey
          split at h
          · obtain ⟨xs, ⟨rfl, rfl, rfl⟩, h⟩ := h
            exact behind b none xs xs hg (List.take_length) rfl ha (delK_out h)
          · rename_i i0
            obtain ⟨xs, ⟨rfl, rfl, rfl, hn0, hn⟩, h⟩ := h
            have hl : (xs.take n.toNat).length = n.toNat := by simp; omega
            exact behind b (some 0) xs (xs.take n.toNat) hg (by rw [hl]) rfl (by rw [hl, Int.toNat_of_nonneg hn0]; exact ha) (delK_out h)
        · exact h.elim
      · exact h.elim
    · split at h
      · rename_i α m d g sl f hh
        obtain ⟨hT0, hsub⟩ := hS.nest _ _ hh
        obtain ⟨i, z, hi, him, hiz, hby, hzs⟩ := info_ofN hT0
        obtain ⟨cs, rs, h', hcl, hcs, hcn, hflat, hU, hlen, hfirst⟩ := one_sound hH h hx
        clear h
        have h := h'
        clear h'
        have hU' : (∃ el, S.P.underlying U = some (.slice el)) ∨ S.P.underlying U = some .string := .inl hU
        have hrl : rs.length = m := by rw [hcs.length, hcl]
        have hf0 : (Builtin.firstCells i.size 1 rx).run S.P w = .ok rs.toArray w := by rw [him]; exact hfirst w rfl
        have hf1 : (Builtin.firstCells i.size 1 rx).run S.P w.drew = .ok rs.toArray w.drew := by rw [him]; exact hfirst w.drew (drew_heap w)
        have grow : ∀ (base : Option Addr) (cap : Nat) (xs : List α) (olds : List Value) (l : List Ent) (G : Foot), l.Sublist H.ents → (∀ x ∈ l, Disj G (ρ.foot x.b)) → (∀ k c, G k c → RwF ρ H k c) → ra = .slice base xs.length cap → xs.length ≤ cap → cap < xs.length + 1 → olds.length = xs.length * m →
            (Builtin.firstCells i.size xs.length ra).run S.P w.drew = .ok olds.toArray w.drew →
            (∀ (w' : World) (arr : Array Value) (rest : List Value), Grew w w' (.cells arr e) → arr.toList = olds ++ rs ++ rest → HoldsE (ρ.set H.next (some (w.heap.size, (0, arr.size))) (fun k c => G k c ∨ regF (some (w.heap.size, (0, arr.size))) k c)) (H.next + 1) w' true (.nest m d g sl f xs (some ((xs.length : Int), cs))) (.loc H.next) (fun k c => G k c ∨ regF (some (w.heap.size, (0, arr.size))) k c)) →
            appendNK S e m d g sl f xs cs ⟨l, H.next⟩ K → AppOp S ρ H w (Builtin.append_ #[T, U] ty #[ra, rx]) K := by
          intro base cap xs olds l G hl hG hGR hra hle hroom holl hof hhold hK
          obtain ⟨⟨hb, hb2⟩, hK⟩ := appendNK_out hK
          rw [hby] at hb
          have hb' : (xs.length + 1) * i.bytes ≤ 140737488355328 := Int.ofNat_le.1 (by rw [Int.natCast_mul]; exact hb)
          have hb2' : xs.length + 1 ≤ 140737488355328 := by omega
          have hrun := append_grow (ty := ty) hT hU' hi hiz hra (hlen w) hf1 hof hroom hle hb' hb2'
          have hcapge : xs.length + 1 ≤ grownCap w (xs.length + 1) cap e := by unfold grownCap Question.cut; exact Nat.le_add_right _ _
          have hcaple : grownCap w (xs.length + 1) cap e ≤ 9223372036854775807 := by
            have := grownCap_le_maxLen w (xs.length + 1) cap e (by unfold maxLen; omega)
            unfold maxLen at this
            exact this
          generalize harr : (olds ++ rs ++ (Builtin.zeroCells z.cells (grownCap w (xs.length + 1) cap e - (xs.length + 1))).toList).toArray = arr at hrun
          have hlist : arr.toList = olds ++ rs ++ (Builtin.zeroCells z.cells (grownCap w (xs.length + 1) cap e - (xs.length + 1))).toList := by rw [← harr]
          have hsize : arr.size = grownCap w (xs.length + 1) cap e * m := by
            have l2 : (Builtin.zeroCells z.cells (grownCap w (xs.length + 1) cap e - (xs.length + 1))).toList.length = (grownCap w (xs.length + 1) cap e - (xs.length + 1)) * m := by
              rw [Array.length_toList, size_zeroCells, hzs]
            have l3 := congrArg List.length hlist
            rw [List.length_append, l2, List.length_append, holl, hrl, Array.length_toList] at l3
            have : xs.length * m + m = (xs.length + 1) * m := by rw [Nat.add_mul, Nat.one_mul]
            rw [l3, this, ← Nat.add_mul]; congr 1; omega
          have hg := Grew.drew_alloc w (.cells arr e)
          have hh := hhold _ arr _ hg hlist
          have hsz : w.heap.size ≤ (w.drew.alloc (.cells arr e)).heap.size := by rw [hg.size]; omega
          have reg : ∀ k c, regF (some (w.heap.size, (0, arr.size))) k c → k = w.heap.size := by rintro k c ⟨z, q, _⟩; simp at q; exact q.1.symm
          have hGlt : ∀ k c, G k c → k < w.heap.size := fun k c q => by obtain ⟨y, p1, _, p3⟩ := hGR k c q; exact hH.low y p1 k c p3
          have hagree := Lay.set_agree ρ H.next (some (w.heap.size, (0, arr.size))) (fun k c => G k c ∨ regF (some (w.heap.size, (0, arr.size))) k c)
          have hafter : After S ρ H w (ρ.set H.next (some (w.heap.size, (0, arr.size))) (fun k c => G k c ∨ regF (some (w.heap.size, (0, arr.size))) k c)) ⟨⟨.loc H.next, true, .nest m d g sl f xs (some ((xs.length : Int), cs))⟩ :: l, H.next + 1⟩ (w.drew.alloc (.cells arr e)) := by
            refine ⟨by simp, hagree, hH.add hl ⟨⟨_, hT0⟩, hsub⟩ hsz hh (fun x hx => ?_) (fun x hx _ k c q p => ?_) (fun k c q => ?_), hsz, ⟨fun k o e' _ => (hg.old k (Array.getElem?_eq_some_iff.1 e').1).trans e', keepF_grew hg _⟩, ?_, hg.os, hg.tape, hg.output⟩
            · exact (hH.holds x (hl.subset hx)).turn (hH.enc x (hl.subset hx)) (hH.key x (hl.subset hx)).1 hagree (by simp) (keepF_grew hg _)
            · rcases q with q | q
              · exact hG x hx k c q p
              · have := reg k c q
                have := hH.low x (hl.subset hx) k c p
                omega
            · rcases q with q | q
              · exact Nat.lt_of_lt_of_le (hGlt k c q) hsz
              · have := reg k c q
                rw [hg.size]; omega
            · rintro k c ⟨x, hx, hxr, q⟩
              rcases List.mem_cons.1 hx with rfl | hx
              · simp only at q; rw [Lay.set_foot] at q
                rcases q with q | q
                · exact .inr (hGR k c q)
                · left; have := reg k c q; omega
              · rw [Lay.set_old _ _ _ (hH.key x (hl.subset hx)).1] at q
                exact .inr ⟨x, hl.subset hx, hxr, q⟩
          refine ⟨_, _, _, _, _, hrun, hK, ?_, loc_lt _, hafter⟩
          refine sl_fresh (Lay.set_self _ _ _ _) rfl (by omega) ?_ _ hcapge hcaple ?_
          · rw [hsize]; exact Nat.mul_le_mul_right _ hcapge
          · rw [hsize]; omega
        have fromNil : ∀ (base : Option Addr) (l : List Ent), l.Sublist H.ents → ra = .slice base 0 0 → appendNK S e m d g sl f [] cs ⟨l, H.next⟩ K → AppOp S ρ H w (Builtin.append_ #[T, U] ty #[ra, rx]) K := by
          intro base l hl hra hK
          refine grow base 0 [] [] l (fun _ _ => False) hl (fun _ _ _ _ q => q.elim) (fun _ _ q => q.elim) hra (by simp) (by simp) (by simp) ?_ (fun w' arr rest hg hlist => ?_) hK
          · rw [hra]
            cases base with
            | none => simp [Builtin.firstCells]
            | some a => simp [Builtin.firstCells, loadCells, loadCellsFrom]
          · have hsa := congrArg List.length hlist
            simp only [List.nil_append, List.length_append, Array.length_toList, hrl] at hsa
            refine nest_first (Lay.set_self _ _ _ _) hg.new (by simp) (.inl rfl) (by simp only; omega) hcl ?_ (hcn.mono (by simp)) (fun k c q => .inr (by rw [Lay.set_self] at q; exact q))
            rw [own_all, hlist, List.nil_append, List.take_append_of_le_length (by omega), List.take_of_length_le (by omega)]
            exact hcs.agree (Lay.set_agree _ _ _ _) hcn
        split at h
        · obtain ⟨b, hb⟩ := ha
          exact fromNil b H.ents (List.Sublist.refl _) hb h
        · rename_i nb m' n
          generalize hkb : Blk.loc nb = b at h ha
          split at h
          · rename_i b' c hg
            obtain ⟨hmem, hkey⟩ := getE_mem hg
            have hkey := hkey.symm
            simp only at hkey
            subst hkey
            obtain ⟨xs, ⟨rfl, hm', rfl⟩, h⟩ := h
            have hm' := hm'.symm
            subst hm'
            have h := delK_out h
            have hhold := hH.holds _ hmem
            simp only at hhold
            have hok := hH.enc _ hmem
            have hblt := (hH.key _ hmem).1
            have hbk := (hH.key _ hmem).2
            have hdel : ∀ x ∈ delE H.ents b, Disj (ρ.foot b) (ρ.foot x.b) := fun x hx => by
              obtain ⟨q1, q2⟩ := delE_mem hg hH.keys x hx
              exact hH.sep _ hmem x q1 (.inl rfl) (Ne.symm q2)
            rcases ha with ⟨e1, e2, e3, base, hra⟩ | ⟨k, zz, cap, off, e1, e2, e3, e4, e5, e6, e7, hra⟩
            · have : xs = [] := List.eq_nil_of_length_eq_zero (by omega)
              subst this
              exact fromNil base _ (delE_sub _ _) hra h
            · simp only [Int.toNat_natCast] at e4 hra
              simp only [Option.getD_none, Int.toNat_zero, Nat.zero_mul, Nat.zero_add, Nat.add_zero] at e6 e7
              obtain ⟨arr0, TT, fz, g1, g2, g3⟩ := hhold.block e1
              have g3 := g3 rfl
              have hsz2 := own_size g2
              have hroot : b.root = some nb := hkb ▸ rfl
              have hlieN : xs.length * m ≤ zz.2 := by
                obtain ⟨⟨ρ1, o1, o2⟩, _⟩ := hhold
                have hb1 : ρ1 b = some (k, zz) := by rw [o1 b (not_under_self b)]; exact e1
                have hlie := o2.1.1
                simp only [Lies, hb1] at hlie
                obtain ⟨arr1, T1, fz1, p1, p2, p3, htot, _⟩ := hlie
                rw [own_size p2] at htot
                exact htot
              by_cases hroom : xs.length + 1 ≤ cap
              · obtain ⟨_, hK⟩ := appendNK_out h
                have hone : ∀ v ∈ rs, v.oneCell' = true := flatL_one hflat hcs
                have hfit : (xs.length + 1) * m ≤ cap * m := Nat.mul_le_mul_right _ hroom
                rw [Nat.add_mul, Nat.one_mul] at hfit
                obtain ⟨w'', arr', r1, r2, hsize0, r3, hkept, r5, r6, r7, r8⟩ := room_store (S := S) (n := xs.length * m) (news := rs) g1 g2 g3 (by omega) hone
                have hoff : off = zz.1 := by rcases e7 with p | p; omega; exact p
                have hst : (match (some (⟨k, off, none⟩ : Addr)) with | none => w'' = w | some a => (storeCells (a.add (xs.length * i.size)) rs).run S.P w = .ok () w'') := by
                  rw [hoff, him]; exact r1
                have hrun := append_room (ty := ty) hT hU' hi hra (hlen w) hf0 hroom hst
                have ha2 := Lay.set_agree ρ H.next (ρ b) (ρ.foot b)
                have hl : HoldsE (ρ.set H.next (ρ b) (ρ.foot b)) (H.next + 1) w'' true (.nest m d g sl f xs (some ((xs.length : Int), cs))) (.loc H.next) (ρ.foot b) := by
                  have hself := Lay.set_self ρ H.next (ρ b) (ρ.foot b)
                  refine nest_snoc (k2 := k) (z2 := zz) hhold hok hblt ha2 (by simp) hroot rfl (by rw [hself]; exact e1) r2 (by omega) (by unfold FzOk at g3 ⊢; rw [hsize0]; exact g3) (hkept.cells.mono fun k' c q p => q.2 ⟨zz, by rw [p.1]; exact e1, p.2⟩) (fun k' c q => .inl (by rw [hself] at q; exact q)) ?_ (by rw [Nat.add_mul, Nat.one_mul]; omega) hcl ?_ (hcn.mono (by simp)) (fun _ _ q => q) (fun k' c q => hhold.reg.2 k' c (by rw [hself] at q; exact q))
                  · intro i' hi' k' z' arr T fz' p1 p2
                    rw [e1] at p1
                    obtain ⟨rfl, rfl⟩ : k = k' ∧ zz = z' := by simpa using p1
                    rw [g1] at p2
                    simp at p2
                    obtain ⟨rfl, rfl, rfl⟩ := p2
                    have hll : (own arr0 zz).toList.length = zz.2 := by simp [hsz2]
                    have : (i' + 1) * m ≤ xs.length * m := Nat.mul_le_mul_right _ (by omega)
                    rw [Nat.add_mul, Nat.one_mul] at this
                    rw [r3]
                    exact splice_apart (by omega) (.inr (by omega))
                  · have hll : (own arr0 zz).toList.length = zz.2 := by simp [hsz2]
                    have := splice_in (L := (own arr0 zz).toList) (news := rs) (j := 0) (i := xs.length) (m := m) (by omega) (by omega)
                    rw [Nat.add_zero] at this
                    rw [r3, this, List.take_zero, List.nil_append, List.drop_of_length_le (by simp only [List.length_take, List.length_drop, hll]; omega), List.append_nil]
                    exact hcs.agree ha2 hcn
                have hafter := hH.move (c := .nest m d g sl f xs (some ((xs.length : Int), cs))) hg rfl ⟨⟨_, hT0⟩, hsub⟩ (fun k' c q => hhold.reg.2 k' c (by have q := Classical.not_not.1 q; exact ⟨zz, by rw [q.1]; exact e1, q.2⟩)) hkept (by omega) hl r6 r7 r8
                refine ⟨_, _, _, _, _, hrun, hK, .inr ⟨k, zz, cap, off, by rw [Lay.set_self, e1], by simp, by omega, by rw [Int.toNat_natCast]; exact hroom, e5, by simpa using e6, by simpa using e7, by rw [Int.toNat_natCast]⟩, loc_lt _, hafter⟩
              · have hle : xs.length ≤ cap := e4
                refine grow (some ⟨k, off, none⟩) cap xs ((own arr0 zz).toList.take (xs.length * m)) _ (ρ.foot b) (delE_sub _ _) hdel (fun k' c q => ⟨_, hmem, rfl, q⟩) hra hle (by omega) (by simp [hsz2]; omega) ?_ (fun w' arr rest hgr hlist => ?_) h
                · rw [hra, him]
                  by_cases hcap : cap = 0
                  · have hx0 : xs = [] := List.eq_nil_of_length_eq_zero (by omega)
                    subst hx0
                    simp [Builtin.firstCells, loadCells, loadCellsFrom]
                  · have hoff : off = zz.1 := by rcases e7 with q | q; exact absurd q hcap; exact q
                    subst hoff
                    exact load_first (S := S) g1 g2 hlieN (drew_heap w)
                · have hself := Lay.set_self ρ H.next (some (w.heap.size, (0, arr.size))) (fun k c => ρ.foot b k c ∨ regF (some (w.heap.size, (0, arr.size))) k c)
                  have ha2 := Lay.set_agree ρ H.next (some (w.heap.size, (0, arr.size))) (fun k c => ρ.foot b k c ∨ regF (some (w.heap.size, (0, arr.size))) k c)
                  have hl0 : ((own arr0 zz).toList.take (xs.length * m)).length = xs.length * m := by simp [hsz2]; omega
                  have hsa := congrArg List.length hlist
                  simp only [List.length_append, Array.length_toList, hrl, hl0] at hsa
                  refine nest_snoc (k2 := w.heap.size) (z2 := (0, arr.size)) hhold hok hblt ha2 (by simp) hroot rfl hself hgr.new (by simp) (.inl rfl) (keepF_grew hgr _) (fun k' c q => .inr fun p => ?_) ?_ (by simp only; rw [Nat.add_mul, Nat.one_mul]; omega) hcl ?_ (hcn.mono (by simp)) (fun _ _ q => .inl q) (fun k' c q => .inr (by rw [hself] at q; exact q))
                  · rw [hself] at q
                    obtain ⟨z', q1, _⟩ := q
                    simp at q1
                    have := hH.low _ hmem k' c p
                    omega
                  · intro i' hi' k' z' arr2 T fz' p1 p2
                    rw [e1] at p1
                    obtain ⟨rfl, rfl⟩ : k = k' ∧ zz = z' := by simpa using p1
                    rw [g1] at p2
                    simp at p2
                    obtain ⟨rfl, rfl, rfl⟩ := p2
                    have : (i' + 1) * m ≤ xs.length * m := Nat.mul_le_mul_right _ (by omega)
                    rw [Nat.add_mul, Nat.one_mul] at this
                    rw [own_all, hlist, List.append_assoc, List.drop_append_of_le_length (by omega), List.take_append_of_le_length (by rw [List.length_drop]; omega), List.drop_take, List.take_take, Nat.min_eq_left (by omega)]
                  · rw [own_all, hlist, List.append_assoc, List.drop_append, List.drop_of_length_le (by omega), hl0, Nat.sub_self, List.nil_append, List.drop_zero, List.take_append_of_le_length (by omega), List.take_of_length_le (by omega)]
                    exact hcs.agree ha2 hcn
          · exact h.elim
        · exact h.elim
      · exact h.elim
  · exact h.elim
set_option maxHeartbeats 1000000 in
theorem appendB_sound (hS : SeatOk S) {T U ty : TypeId} {a x : AV} {ra rx : Value} {K : AV → Heap → Prop} (hH : HRel S ρ H w) (ha : VRel ρ a ra) (hx : VRel ρ x rx)
    (h : appendB S T U a x H K) : AppOp S ρ H w (Builtin.append_ #[T, U] ty #[ra, rx]) K := by
  unfold appendB at h
  split at h
  · rename_i e hT
    split at h
    · rename_i α E hh
      have hE : EncOk S.P e E := hS.hint _ _ hh
      obtain ⟨i, z, hi, him, hiz, hby⟩ := info_of hE
      obtain ⟨ys, rs, h', hv, hRoom, hGrow⟩ := srcZ_sound (ty := ty) (ra := ra) hS hE hH hT hi him hiz h hx
      clear h
      have h := h'
      clear h'
      have grow : ∀ (base : Option Addr) (cap : Nat) (xs : List α) (olds : List Value) (l : List Ent), l.Sublist H.ents → ra = .slice base xs.length cap → xs.length ≤ cap → cap < xs.length + ys.length → Vals ρ H.next E xs olds →
          (Builtin.firstCells i.size xs.length ra).run S.P w.drew = .ok olds.toArray w.drew → appendK S E e xs ys ⟨l, H.next⟩ K → AppOp S ρ H w (Builtin.append_ #[T, U] ty #[ra, rx]) K := by
        intro base cap xs olds l hl hra hle hroom ho hof hK
        obtain ⟨⟨hb, hb2⟩, hK⟩ := appendK_out hK
        rw [hby] at hb
        have hb' : (xs.length + ys.length) * i.bytes ≤ 140737488355328 := Int.ofNat_le.1 (by rw [Int.natCast_mul]; exact hb)
        have hb2' : xs.length + ys.length ≤ 140737488355328 := by omega
        have hrun := hGrow base xs.length cap olds hra hof hroom hle hb' hb2'
        have hcapge : xs.length + ys.length ≤ grownCap w (xs.length + ys.length) cap e := by unfold grownCap Question.cut; exact Nat.le_add_right _ _
        have hcaple : grownCap w (xs.length + ys.length) cap e ≤ 9223372036854775807 := by
          have := grownCap_le_maxLen w (xs.length + ys.length) cap e (by unfold maxLen; omega)
          unfold maxLen at this
          exact this
        have hvals := Vals.append hE ho hv
        generalize harr : (olds ++ rs ++ (Builtin.zeroCells z.cells (grownCap w (xs.length + ys.length) cap e - (xs.length + ys.length))).toList).toArray = arr at hrun
        have hlist : arr.toList = (olds ++ rs) ++ (Builtin.zeroCells z.cells (grownCap w (xs.length + ys.length) cap e - (xs.length + ys.length))).toList := by rw [← harr]
        have hzs : z.cells.size = E.m := by
          obtain ⟨zl, hz, hzr⟩ := hE.zero
          rw [hi] at hz
          simp [hiz] at hz
          subst hz
          have := (hzr ρ).length
          rw [hE.len] at this
          simpa using this
        have hsize : arr.size = grownCap w (xs.length + ys.length) cap e * E.m := by
          have l1 := hvals.1
          have l2 : (Builtin.zeroCells z.cells (grownCap w (xs.length + ys.length) cap e - (xs.length + ys.length))).toList.length = (grownCap w (xs.length + ys.length) cap e - (xs.length + ys.length)) * E.m := by
            rw [Array.length_toList, size_zeroCells, hzs]
          have l3 := congrArg List.length hlist
          rw [List.length_append, l1, l2, List.length_append, ← Nat.add_mul, Array.length_toList] at l3
          rw [l3]; congr 1; omega
        have hpush := hH.push (c := .arr E (xs ++ ys)) (Grew.drew_alloc w (.cells arr e)) (.inl rfl) ⟨e, hE⟩ (.arr fun b => hvals.lie hE hlist b)
        have hafter := hpush.sub (l := ⟨.loc H.next, true, .arr E (xs ++ ys)⟩ :: l) (hl.cons_cons _)
        refine ⟨_, _, _, _, _, hrun, hK, ?_, loc_lt _, hafter⟩
        refine sl_fresh (Lay.set_self _ _ _ _) rfl (by omega) ?_ _ hcapge hcaple ?_
        · rw [hsize]; exact Nat.mul_le_mul_right _ hcapge
        · rw [hsize]; omega
      have nothing : ∀ (base : Option Addr) (l : List Ent), l.Sublist H.ents → ra = .slice base 0 0 → ys = [] → appendK S E e [] ys ⟨l, H.next⟩ K → AppOp S ρ H w (Builtin.append_ #[T, U] ty #[ra, rx]) K := by
        rintro base l hl hra rfl hK
        obtain ⟨_, hK⟩ := appendK_out hK
        have hrs : rs = [] := List.eq_nil_of_length_eq_zero (by rw [hv.1]; simp)
        subst hrs
        have hrun := hRoom base 0 0 w hra (by simp) (by simp) (by cases base <;> simp [storeCells])
        have hnone := hH.nothing (c := .arr E ([] ++ [])) (by simp [Cont.empty]) trivial ⟨e, hE⟩
        have hafter := hnone.sub (l := ⟨.loc H.next, true, .arr E ([] ++ [])⟩ :: l) (hl.cons_cons _)
        exact ⟨_, _, _, _, _, hrun, hK, .inl ⟨Lay.set_self _ _ _ _, rfl, rfl, base, rfl⟩, loc_lt _, hafter⟩
      have fromNil : ∀ (base : Option Addr) (l : List Ent), l.Sublist H.ents → ra = .slice base 0 0 → appendK S E e [] ys ⟨l, H.next⟩ K → AppOp S ρ H w (Builtin.append_ #[T, U] ty #[ra, rx]) K := by
        intro base l hl hra hK
        by_cases hy : ys = []
        · exact nothing base l hl hra hy hK
        · have : 0 < ys.length := List.length_pos_iff.2 hy
          refine grow base 0 [] [] l hl hra (by simp) (by simpa using this) ⟨by simp, fun t ht => by simp at ht⟩ ?_ hK
          rw [hra]
          cases base with
          | none => simp [Builtin.firstCells]
          | some a => simp [Builtin.firstCells, loadCells, loadCellsFrom]
      split at h
      · rename_i b m n
        split at h
        · rename_i b' c hg
          obtain ⟨hmem, hkey⟩ := getE_mem hg
          have hkey := hkey.symm
          simp only at hkey
          subst hkey
          obtain ⟨xs, ⟨rfl, rfl, rfl⟩, h, hK⟩ := h
          have hK := natK_out (setH_out hK)
          have hhold := (hH.holds _ hmem).arr
          have hlies := hhold.1
          have hblt := (hH.key _ hmem).1
          rcases ha with ⟨e1, e2, e3, base, hra⟩ | ⟨k, zz, cap, off, e1, e2, e3, e4, e5, e6, e7, hra⟩
          · have : xs = [] := List.eq_nil_of_length_eq_zero (by omega)
            subst this
            exact fromNil base _ (List.Sublist.refl _) hra h
          · simp only [Int.toNat_natCast] at e4 hra
            simp only [Option.getD_none, Int.toNat_zero, Nat.zero_mul, Nat.zero_add, Nat.add_zero] at e6 e7
            simp only [Lies, e1] at hlies
            obtain ⟨arr0, TT, fz, g1, g2, g3, g4⟩ := hlies
            have g3 := g3 trivial
            have hsz2 := own_size g2
            have hxs : Vals ρ H.next E xs ((own arr0 zz).toList.take (xs.length * E.m)) := lie_vals hE g4
            by_cases hroom : xs.length + ys.length ≤ cap
            · obtain ⟨⟨hbb, _⟩, _⟩ := appendK_out h
              rw [hby] at hbb
              have hbb' : (xs.length + ys.length) * i.bytes ≤ 140737488355328 := Int.ofNat_le.1 (by rw [Int.natCast_mul]; exact hbb)
              have hyb : ys.length * i.bytes ≤ 140737488355328 := Nat.le_trans (Nat.mul_le_mul_right _ (by omega)) hbb'
              have hone := hv.one hE
              have hfit : (xs.length + ys.length) * E.m ≤ cap * E.m := Nat.mul_le_mul_right _ hroom
              rw [Nat.add_mul] at hfit
              have hrs := hv.1
              obtain ⟨w'', arr', r1, r2, hsize0, r3, hkept, r5, r6, r7, r8⟩ := room_store (S := S) (n := xs.length * E.m) (news := rs) g1 g2 g3 (by omega) hone
              have hoff : cap ≠ 0 → off = zz.1 := fun q => by rcases e7 with p | p; exact absurd p q; exact p
              have hst : (match (some (⟨k, off, none⟩ : Addr)) with | none => w'' = w | some a => (storeCells (a.add (xs.length * i.size)) rs).run S.P w = .ok () w'') := by
                by_cases hcap : cap = 0
                · have hy0 : ys = [] := List.eq_nil_of_length_eq_zero (by omega)
                  have hrs0 : rs = [] := List.eq_nil_of_length_eq_zero (by rw [hv.1, hy0]; simp)
                  subst hrs0
                  simp only [storeCells] at r1 ⊢
                  exact r1
                · rw [hoff hcap, him]; exact r1
              have hrun := hRoom _ _ _ _ hra hyb hroom hst
              have hvals := Vals.append hE hxs hv
              have hlist : (own arr' zz).toList = ((own arr0 zz).toList.take (xs.length * E.m) ++ rs) ++ (own arr0 zz).toList.drop (xs.length * E.m + rs.length) := by rw [r3, List.append_assoc]
              have hl : Lies ρ H.next w'' true b (.arr E (xs ++ ys)) := by
                simp only [Lies, e1]
                exact ⟨arr', TT, fz, r2, by omega, fun _ => by unfold FzOk at g3 ⊢; rw [hsize0]; exact g3, hvals.lie hE hlist b⟩
              have hafter := hH.update (c := .arr E (xs ++ ys)) hg rfl ⟨e, hE⟩ (fun k' c q => hhold.2 k' c (by have q := Classical.not_not.1 q; exact ⟨zz, by rw [q.1]; exact e1, q.2⟩)) hkept ⟨hl, hhold.2⟩ (by omega) r6 r7 r8
              exact ⟨_, _, _, ρ, _, hrun, hK, .inr ⟨k, zz, cap, off, e1, by simp, by omega, by rw [Int.toNat_natCast]; exact hroom, e5, by simpa using e6, by simpa using e7, by rw [Int.toNat_natCast]⟩, hblt, hafter⟩
            · refine grow (some ⟨k, off, none⟩) cap xs ((own arr0 zz).toList.take (xs.length * E.m)) _ (List.Sublist.refl _) hra e4 (by omega) hxs ?_ h
              rw [hra, him]
              by_cases hcap : cap = 0
              · have hx0 : xs = [] := List.eq_nil_of_length_eq_zero (by omega)
                subst hx0
                simp [Builtin.firstCells, loadCells, loadCellsFrom]
              · have hoff : off = zz.1 := by rcases e7 with q | q; exact absurd q hcap; exact q
                subst hoff
                have hmm : xs.length * E.m ≤ cap * E.m := Nat.mul_le_mul_right _ e4
                exact load_first (S := S) g1 g2 (by omega) (drew_heap w)
        · exact h.elim
      · exact h.elim
    · exact h.elim
  · exact h.elim
end
end Go.Vm
namespace Go.Vm
open Go.RowKit
section
variable (S : Seat)
def clearA (T : TypeId) (s : AV) (H : Heap) (K : AV → Heap → Prop) : Prop :=
  match S.P.underlying T with
  | some (.slice e) => match S.hint e with
    | some ⟨_, E⟩ => match s with
      | .nils => K (.tup []) H
      | .sl b m i n => match getE H.ents b with
        | some ⟨_, true, c⟩ => ∃ xs, (c = .arr E xs ∧ m = E.m) ∧ match i with
          | none => (0 ≤ n ∧ n ≤ xs.length) ∧ setH H b (.arr E (over xs 0 (List.replicate n.toNat E.d))) fun H => K (.tup []) H
          | some i => (0 ≤ i ∧ 0 ≤ n ∧ i + n ≤ xs.length) ∧ setH H b (.arr E (over xs i.toNat (List.replicate n.toNat E.d))) fun H => K (.tup []) H
        | _ => False
      | _ => False
    | none => False
  | _ => False
end
section
variable {S : Seat} {ρ ρ' : Lay} {H : Heap} {w w' : World} {N N' : Nat}
theorem Vals.drop {α : Type} {E : Enc α} {ys : List α} {rs : List Value} (h : Vals ρ N E ys rs) (n : Nat) : Vals ρ N E (ys.drop n) (rs.drop (n * E.m)) := by
  refine ⟨by rw [List.length_drop, List.length_drop, h.1, Nat.sub_mul], fun t ht => ?_⟩
  rw [List.length_drop] at ht
  have e1 : (ys.drop n).getD t E.d = ys.getD (n + t) E.d := by simp only [List.getD_eq_getElem?_getD, List.getElem?_drop]
  rw [e1, List.drop_drop, ← Nat.add_mul]
  exact h.2 (n + t) (by omega)
theorem over_lie {T : TypeId} {α : Type} {E : Enc α} (hE : EncOk S.P T E) {xs ys : List α} {arr arr' : Array Value} {news : List Value} {b : Blk} {i : Nat} (h : CellsLie ρ N arr b (.arr E xs)) (hv : Vals ρ N E ys news) (hi : i + ys.length ≤ xs.length)
    (ha : arr'.toList = arr.toList.take (i * E.m) ++ (news ++ arr.toList.drop (i * E.m + news.length))) (b' : Blk) : CellsLie ρ N arr' b' (.arr E (over xs i ys)) := by
  have hx := lie_vals hE h
  have hsz := h.1
  have hA := hx.take i
  have hB := hx.drop (i + ys.length)
  have hm : i * E.m + ys.length * E.m ≤ xs.length * E.m := by rw [← Nat.add_mul]; exact Nat.mul_le_mul_right _ hi
  refine (Vals.append hE hA (Vals.append hE hv hB)).lie hE (rest := arr.toList.drop (xs.length * E.m)) ?_ b'
  rw [ha, hv.1, Nat.add_mul, List.take_take, Nat.min_eq_left (by omega), List.append_assoc, List.append_assoc]
  congr 2
  rw [List.drop_take]
  have e : arr.toList.drop (xs.length * E.m) = (arr.toList.drop (i * E.m + ys.length * E.m)).drop (xs.length * E.m - (i * E.m + ys.length * E.m)) := by
    rw [List.drop_drop]; congr 1; omega
  rw [e, List.take_append_drop]
theorem range_write {e : TypeId} {α : Type} {E : Enc α} (hE : EncOk S.P e E) (hH : HRel S ρ H w) {b b0 : Blk} {xs ys : List α} (hg : getE H.ents b = some ⟨b0, true, .arr E xs⟩) {i : Nat} {n : Int} {io : Option Int} {r : Value}
    (hi : (i : Int) = io.getD 0) (hle : i + ys.length ≤ xs.length) {news : List Value} (hv : Vals ρ H.next E ys news) (hr : VRel ρ (.sl b E.m io n) r) (hny : ys.length ≤ n.toNat) :
    ∃ base cap w', r = .slice base n.toNat cap ∧ (match base with | none => ys = [] ∧ w' = w | some a => (storeCells a news).run S.P w = .ok () w') ∧ After S ρ H w ρ ⟨setE H.ents b (.arr E (over xs i ys)), H.next⟩ w' := by
  obtain ⟨hmem, hkey⟩ := getE_mem hg
  simp only at hkey
  subst hkey
  have hhold := (hH.holds _ hmem).arr
  have hlies := hhold.1
  have idle : ys = [] → After S ρ H w ρ ⟨setE H.ents b0 (.arr E (over xs i ys)), H.next⟩ w := by
    rintro rfl
    have ho : over xs i ([] : List α) = xs := by simp [over]
    rw [ho]
    exact hH.update (P := fun _ _ => True) hg rfl (hH.enc _ hmem) (fun _ _ q => absurd trivial q) (.refl _ _) hhold (Nat.le_refl _) rfl rfl rfl
  rcases hr with ⟨e1, e2, e3, base, hra⟩ | ⟨k, zz, cap, off, e1, e2, e3, e4, e5, e6, e7, hra⟩
  · have hy0 : ys = [] := List.eq_nil_of_length_eq_zero (by rw [e2] at hny; simpa using hny)
    subst e2
    have hnews : news = [] := List.eq_nil_of_length_eq_zero (by rw [hv.1, hy0]; simp)
    refine ⟨base, 0, w, hra, ?_, idle hy0⟩
    cases base with
    | none => exact ⟨hy0, rfl⟩
    | some a => rw [hnews]; simp [storeCells]
  · simp only [Lies, e1] at hlies
    obtain ⟨arr0, TT, fz, g1, g2, g3, g4⟩ := hlies
    have g3 := g3 trivial
    have hsz2 := own_size g2
    by_cases hy0 : ys = []
    · have hnews : news = [] := List.eq_nil_of_length_eq_zero (by rw [hv.1, hy0]; simp)
      exact ⟨_, cap, w, hra, by rw [hnews]; simp [storeCells], idle hy0⟩
    · have hypos : 0 < ys.length := List.length_pos_iff.2 hy0
      have hoff : off = zz.1 + i * E.m := by
        rcases e7 with q | q
        · omega
        · rw [q, ← hi, Int.toNat_natCast]
      subst hoff
      have hsz := g4.1
      have hfit : i * E.m + ys.length * E.m ≤ xs.length * E.m := by rw [← Nat.add_mul]; exact Nat.mul_le_mul_right _ hle
      have hnl := hv.1
      obtain ⟨w', arr0', r1, r2, hsize0, r3', hkept, r5, r6, r7, r8⟩ := room_store (S := S) (n := i * E.m) (news := news) g1 g2 g3 (by omega) (hv.one hE)
      have hadd : (Addr.add ⟨k, zz.1, none⟩ (i * E.m)) = ⟨k, zz.1 + i * E.m, none⟩ := by
        simp only [Addr.add]; split
        · rename_i q; simp [q]
        · simp
      rw [hadd] at r1
      have hl : Lies ρ H.next w' true b0 (.arr E (over xs i ys)) := by
        simp only [Lies, e1]
        exact ⟨arr0', TT, fz, r2, by omega, fun _ => by unfold FzOk at g3 ⊢; rw [hsize0]; exact g3, over_lie hE g4 hv hle r3' b0⟩
      exact ⟨_, cap, w', hra, r1, hH.update hg rfl (hH.enc _ hmem) (fun k' c q => hhold.2 k' c (by have q := Classical.not_not.1 q; exact ⟨zz, by rw [q.1]; exact e1, q.2⟩)) hkept ⟨hl, hhold.2⟩ (by omega) r6 r7 r8⟩
theorem copy_sound (hS : SeatOk S) {T U ty : TypeId} {a x : AV} {ra rx : Value} {K : AV → Heap → Prop} (hH : HRel S ρ H w) (ha : VRel ρ a ra) (hx : VRel ρ x rx)
    (h : copyA S T U a x H K) : AppOp S ρ H w (Builtin.copy_ #[T, U] ty #[ra, rx]) K := by
  unfold copyA at h
  split at h
  · rename_i e hT
    split at h
    · rename_i α E hh
      have hE : EncOk S.P e E := hS.hint _ _ hh
      obtain ⟨i, z, hi, him, hiz, hby⟩ := info_of hE
      obtain ⟨ys, rs, h', hv, hU, hlen, hmax, hfirst⟩ := src_sound (N := H.next) hE hH h hx
      clear h
      have h := h'
      clear h'
      have hsz : (sizeOf e).run S.P w = .ok E.m w := by simp [sizeOf, typeInfo, hi, him]
      split at h
      · obtain ⟨b, hb⟩ := ha
        refine ⟨_, .int .i64 0, H, ρ, w, ?_, h, rfl, trivial, .refl hH⟩
        have := hfirst 0 w rfl (by omega)
        simp only [Nat.zero_mul, List.take_zero] at this
        cases b <;> simp [Builtin.copy_, run_und hT, hb, hlen, hsz, this, storeCells, goInt]
      · rename_i b m io n
        split at h
        · rename_i b' c hg
          obtain ⟨xs, ⟨rfl, rfl⟩, h⟩ := h
          have hp : ∃ i' : Nat, (i' : Int) = io.getD 0 ∧ 0 ≤ n ∧ i' + n.toNat ≤ xs.length ∧ K (.int .i64 (min (ys.length : Int) n)) ⟨setE H.ents b (.arr E (over xs i' (ys.take n.toNat))), H.next⟩ := by
            split at h
            · obtain ⟨⟨h1, h2⟩, h⟩ := h
              exact ⟨0, rfl, h1, by omega, setH_out h⟩
            · rename_i i0
              obtain ⟨⟨h1, h2, h3⟩, h⟩ := h
              exact ⟨i0.toNat, by simp; omega, h2, by omega, setH_out h⟩
          obtain ⟨i', hi', hn, hle, hK⟩ := hp
          have hlt : (ys.take n.toNat).length ≤ n.toNat := by simp; omega
          obtain ⟨base, cap, w', hra, hst, haf⟩ := range_write hE hH hg (i := i') (ys := ys.take n.toNat) (news := (rs.take (n.toNat * E.m))) hi' (by omega) (hv.take _) ha hlt
          have hfst := hfirst (Nat.min ys.length n.toNat) w rfl (Nat.min_le_left _ _)
          have hnews : rs.take (Nat.min ys.length n.toNat * E.m) = rs.take (n.toNat * E.m) := by
            rw [List.take_eq_take_iff, hv.1, show Nat.min ys.length n.toNat = min ys.length n.toNat from rfl, ← Nat.mul_min_mul_right]
            omega
          rw [hnews] at hfst
          have hret : goInt ((Nat.min ys.length n.toNat : Nat) : Int) = .int .i64 (min (ys.length : Int) n) := by
            unfold goInt; congr 1; rw [show Nat.min ys.length n.toNat = min ys.length n.toNat from rfl]; omega
          refine ⟨_, _, _, ρ, w', ?_, hK, rfl, trivial, haf⟩
          cases base with
          | none =>
            obtain ⟨_, rfl⟩ := hst
            simp only [Builtin.copy_, List.getElem?_toArray, List.getElem?_cons_zero, List.getElem?_cons_succ, Sem.run_bind, run_und hT, Result.andThen_ok, hra, hlen, hsz, hfst, Sem.run_pure, hret]
          | some a =>
            simp only [Builtin.copy_, List.getElem?_toArray, List.getElem?_cons_zero, List.getElem?_cons_succ, Sem.run_bind, run_und hT, Result.andThen_ok, hra, hlen, hsz, hfst, Sem.run_pure, hret]
            have hst : (storeCells a (rs.take (n.toNat * E.m))).run S.P w = .ok () w' := hst
            simp only [hst, Result.andThen_ok, Sem.run_pure]
        · exact h.elim
      · exact h.elim
    · exact h.elim
  · exact h.elim
theorem clear_sound (hS : SeatOk S) {T ty : TypeId} {a : AV} {ra : Value} {K : AV → Heap → Prop} (hH : HRel S ρ H w) (ha : VRel ρ a ra)
    (h : clearA S T a H K) : AppOp S ρ H w (Builtin.clear_ #[T] ty #[ra]) K := by
  unfold clearA at h
  split at h
  · rename_i e hT
    split at h
    · rename_i α E hh
      have hE : EncOk S.P e E := hS.hint _ _ hh
      obtain ⟨i, z, hi, him, hiz, hby⟩ := info_of hE
      have hzv : (zeroValue e).run S.P w = .ok z w := by simp [zeroValue, typeInfo, hi, hiz]
      split at h
      · obtain ⟨b, hb⟩ := ha
        refine ⟨_, .tuple #[], H, ρ, w, ?_, h, ⟨[], rfl, rfl⟩, trivial, .refl hH⟩
        cases b <;> simp [Builtin.clear_, run_und hT, hb]
      · rename_i b m io n
        split at h
        · rename_i b' c hg
          obtain ⟨xs, ⟨rfl, rfl⟩, h⟩ := h
          have hp : ∃ i' : Nat, (i' : Int) = io.getD 0 ∧ 0 ≤ n ∧ i' + n.toNat ≤ xs.length ∧ K (.tup []) ⟨setE H.ents b (.arr E (over xs i' (List.replicate n.toNat E.d))), H.next⟩ := by
            split at h
            · obtain ⟨⟨h1, h2⟩, h⟩ := h
              exact ⟨0, rfl, h1, by omega, setH_out h⟩
            · rename_i i0
              obtain ⟨⟨h1, h2, h3⟩, h⟩ := h
              exact ⟨i0.toNat, by simp; omega, h2, by omega, setH_out h⟩
          obtain ⟨i', hi', hn, hle, hK⟩ := hp
          obtain ⟨base, cap, w', hra, hst, haf⟩ := range_write hE hH hg (i := i') (ys := List.replicate n.toNat E.d) hi' (by simp; omega) (vals_zero hE hi hiz n.toNat) ha (by simp)
          refine ⟨_, .tuple #[], _, ρ, w', ?_, hK, ⟨[], rfl, rfl⟩, trivial, haf⟩
          cases base with
          | none =>
            obtain ⟨_, rfl⟩ := hst
            simp [Builtin.clear_, run_und hT, hra]
          | some a =>
            cases hnn : n.toNat with
            | zero =>
              rw [hnn] at hst hra
              have hst : (storeCells a (Builtin.zeroCells z.cells 0).toList).run S.P w = .ok () w' := hst
              simp [Builtin.zeroCells, storeCells] at hst
              subst hst
              simp [Builtin.clear_, run_und hT, hra]
            | succ k =>
              rw [hnn] at hst hra
              have hst : (storeCells a (Builtin.zeroCells z.cells (k + 1)).toList).run S.P w = .ok () w' := hst
              simp [Builtin.clear_, run_und hT, hra, hzv, hst]
        · exact h.elim
      · exact h.elim
    · exact h.elim
  · exact h.elim
end
end Go.Vm
namespace Go.Vm
open Go.RowKit
section
variable (S : Seat)
def convSlA (s d : TypeId) (x : AV) (H : Heap) (K : AV → Heap → Prop) : Prop :=
  match S.P.underlying s with
  | some (.slice _) => match S.P.underlying d with
    | some (.slice e) => match S.P.underlying e with
      | some (.int .u8) => match s == d with
        | true => match x with
          | .sl b m i n => match getE H.ents b with
            | some ⟨_, true, .arr E xs⟩ => match Nat.ble 1 m with
              | true => 0 < n ∧ setH H b (.arr E xs) fun H => K (.sl b m i n) H
              | false => False
            | _ => False
          | _ => False
        | false => False
      | _ => False
    | _ => False
  | _ => False
end
section
variable {S : Seat} {ρ ρ' : Lay} {H : Heap} {w w' : World} {N N' : Nat}
theorem convSl_sound {s d : TypeId} {x : AV} {rx : Value} {K : AV → Heap → Prop} (hH : HRel S ρ H w) (hx : VRel ρ x rx) (hl : x.lt H.next) (h : convSlA S s d x H K) :
    AppOp S ρ H w (convert s d rx) K := by
  unfold convSlA at h
  split at h
  · rename_i es hs
    split at h
    · rename_i e hd
      split at h
      · rename_i he
        split at h
        · rename_i hsd
          split at h
          · rename_i b m i n
            split at h
            · rename_i b' α E xs hg
              split at h
              rotate_left
              · exact h.elim
              rename_i hm1
              obtain ⟨hn, h⟩ := h
              have hK := setH_out h
              obtain ⟨hmem, hkey⟩ := getE_mem hg
              simp only at hkey
              subst hkey
              rcases hx with ⟨_, e2, _⟩ | ⟨k, zz, cap, off, e1, e2, e3, e4, e5, e6, e7, hra⟩
              · omega
              · have hhold := (hH.holds _ hmem).arr
                have hlies := hhold.1
                simp only [Lies, e1] at hlies
                obtain ⟨arr, TT, fz, g1, g2, g3, g4⟩ := hlies
                have hk : k < w.heap.size := (Array.getElem?_eq_some_iff.1 g1).1
                have hsh : w.shape? k = some (TT, arr.size) := by simp [World.shape?, g1]
                have hrun : (convert s d rx).run S.P w = .ok rx (w.freeze ⟨k, arr.size, none⟩ 1) := by
                  rw [hra]
                  simp [convert, run_und hs, run_und hd, run_und he, hsd, markStringish, hsh]
                have hfz : ∃ fz2 : Nat × Nat, (w.freeze ⟨k, arr.size, none⟩ 1).heap[k]? = some (.cells arr TT fz2) ∧ arr.size ≤ fz2.1 := by
                  have g3 := g3 trivial
                  unfold FzOk at g3
                  unfold World.freeze
                  rw [if_neg (by decide)]
                  obtain ⟨lo, hi⟩ := fz
                  simp only at g3
                  refine ⟨if lo == hi then (arr.size, arr.size + 1) else (min lo arr.size, max hi (arr.size + 1)), ?_, ?_⟩
                  · simp [Array.getElem?_modify, g1]
                  · split
                    · exact Nat.le_refl _
                    · rename_i hne
                      have hne : ¬ lo = hi := by simpa using hne
                      simp only
                      omega
                obtain ⟨fz2, hfz, hfz2⟩ := hfz
                have hoth : ∀ j, j ≠ k → (w.freeze ⟨k, arr.size, none⟩ 1).heap[j]? = w.heap[j]? := by
                  intro j hj
                  unfold World.freeze
                  rw [if_neg (by decide)]
                  simp [Array.getElem?_modify, Ne.symm hj]
                have hlies' : Lies ρ H.next (w.freeze ⟨k, arr.size, none⟩ 1) true b' (.arr E xs) := by
                  simp only [Lies, e1]
                  exact ⟨arr, TT, fz2, hfz, g2, fun _ => .inr hfz2, g4⟩
                have hsz : (w.freeze ⟨k, arr.size, none⟩ 1).heap.size = w.heap.size := by
                  unfold World.freeze
                  rw [if_neg (by decide)]
                  simp
                have hpos : 0 < zz.2 := by
                  have h1 : 0 < cap := by omega
                  have h2 : 0 < cap * m := Nat.mul_pos h1 (Nat.le_of_ble_eq_true hm1)
                  omega
                have haf := hH.update (c := .arr E xs) hg rfl (hH.enc _ hmem) (fun k' c q => hhold.2 k' c (by have q := Classical.not_not.1 q; exact ⟨zz, by rw [q.1]; exact e1, q.2⟩)) (Kept.one g1 hfz rfl (fun _ => .inr hfz2) hpos (fun _ _ => rfl) hoth) ⟨hlies', hhold.2⟩ (by omega) (by unfold World.freeze; rw [if_neg (by decide)]) (by unfold World.freeze; rw [if_neg (by decide)]) (by unfold World.freeze; rw [if_neg (by decide)])
                refine ⟨_, rx, _, ρ, _, hrun, hK, .inr ⟨k, zz, cap, off, e1, e2, e3, e4, e5, e6, e7, hra⟩, hl, haf⟩
            · exact h.elim
          · exact h.elim
        · exact h.elim
      · exact h.elim
    · exact h.elim
  · exact h.elim
end
end Go.Vm
