/- The seat: which functions are entered, how data lie. -/
import Derived.Test.YtofeeoknfhekkaaGreatVmH
import Derived.Test.YtofeeoknfhekkaaGreatChecked
import Derived.KernelRfl
import Derived.ChangeKeysEq
set_option linter.unusedSimpArgs false
set_option linter.unusedVariables false
set_option linter.constructorNameAsVariable false
namespace Go.Mu
open Go Go.Vm Go.RowKit Go.Proofs

noncomputable def seatHint (T : TypeId) : Option EncAny := match T with
  | 5 => some ⟨_, intE .u8⟩
  | 2 => some ⟨_, intE .i64⟩
  | 3 => some ⟨_, intE .i64⟩
  | 4 => some ⟨_, boolE⟩
  | 9 => some ⟨_, strE⟩
  | 238 => some ⟨_, pairE⟩
  | 357 => some ⟨_, pairE⟩
  | 207 => some ⟨_, pairE⟩
  | 225 => some ⟨_, pairE⟩
  | 89 => some ⟨_, pairE⟩
  | 93 => some ⟨_, pairE⟩
  | 91 => some ⟨_, quadE⟩
  | 95 => some ⟨_, quadE⟩
  | _ => none
noncomputable def seatNest (T : TypeId) : Option NestAny := match T with
  | 34 => some ⟨_, 1, [], bytesG, [0], bytesF⟩
  | 132 => some ⟨_, 38, con0, conG, [0, 1, 2, 3, 4, 5, 6], conF⟩
  | 162 => some ⟨_, 38, con0, conG, [0, 1, 2, 3, 4, 5, 6], conF⟩
  | _ => none
def seatHas (n : Nat) : Bool := Nat.ble 11 n && Nat.ble n 367
def seatExt (n : Nat) (args : List AV) (K : AV → Prop) : Prop := match n with
  | _ => False
def seatFlat (T : TypeId) : Option Nat := match T with
  | 117 => some 3
  | _ => none
noncomputable def S : Seat := { P := Tryz.prog, hint := seatHint, flat := seatFlat, has := seatHas, ext := seatExt, nest := seatNest }

theorem ok5 : EncOk Tryz.prog 5 (intE .u8) := intE_ok (by kernel_rfl) (by kernel_rfl)
theorem hint_u8 : ∃ T, S.hint T = some ⟨_, intE .u8⟩ := ⟨5, rfl⟩
theorem ok2 : EncOk Tryz.prog 2 (intE .i64) := intE_ok (by kernel_rfl) (by kernel_rfl)
theorem hint_i64 : ∃ T, S.hint T = some ⟨_, intE .i64⟩ := ⟨2, rfl⟩
theorem ok3 : EncOk Tryz.prog 3 (intE .i64) := intE_ok (by kernel_rfl) (by kernel_rfl)
theorem ok4 : EncOk Tryz.prog 4 (boolE) := boolE_ok (by kernel_rfl) (by kernel_rfl)
theorem hint_bool : ∃ T, S.hint T = some ⟨_, boolE⟩ := ⟨4, rfl⟩
theorem ok9 : EncOk Tryz.prog 9 (strE) := strE_ok (by kernel_rfl) (by kernel_rfl)
theorem hint_str : ∃ T, S.hint T = some ⟨_, strE⟩ := ⟨9, rfl⟩
theorem ok238 : EncOk Tryz.prog 238 (pairE) := pairE_ok (by kernel_rfl) (by kernel_rfl)
theorem hint_pair : ∃ T, S.hint T = some ⟨_, pairE⟩ := ⟨238, rfl⟩
theorem ok357 : EncOk Tryz.prog 357 (pairE) := pairE_ok (by kernel_rfl) (by kernel_rfl)
theorem ok207 : EncOk Tryz.prog 207 (pairE) := pairE_ok (by kernel_rfl) (by kernel_rfl)
theorem ok225 : EncOk Tryz.prog 225 (pairE) := pairE_ok (by kernel_rfl) (by kernel_rfl)
theorem ok89 : EncOk Tryz.prog 89 (pairE) := pairE_ok (by kernel_rfl) (by kernel_rfl)
theorem ok93 : EncOk Tryz.prog 93 (pairE) := pairE_ok (by kernel_rfl) (by kernel_rfl)
theorem ok91 : EncOk Tryz.prog 91 (quadE) := quadE_ok (by kernel_rfl) (by kernel_rfl)
theorem hint_quad : ∃ T, S.hint T = some ⟨_, quadE⟩ := ⟨91, rfl⟩
theorem ok95 : EncOk Tryz.prog 95 (quadE) := quadE_ok (by kernel_rfl) (by kernel_rfl)
theorem nok34 : NestOk Tryz.prog 34 1 [] bytesG [0] bytesF := bytesN_ok (by kernel_rfl) (by kernel_rfl)
theorem hint_bytesN : ∃ T, S.nest T = some ⟨_, 1, [], bytesG, [0], bytesF⟩ := ⟨34, rfl⟩
theorem nok132 : NestOk Tryz.prog 132 38 con0 conG [0, 1, 2, 3, 4, 5, 6] conF := consN_ok (by kernel_rfl) (by kernel_rfl)
theorem hint_conN : ∃ T, S.nest T = some ⟨_, 38, con0, conG, [0, 1, 2, 3, 4, 5, 6], conF⟩ := ⟨132, rfl⟩
theorem nok162 : NestOk Tryz.prog 162 38 con0 conG [0, 1, 2, 3, 4, 5, 6] conF := consN_ok (by kernel_rfl) (by kernel_rfl)
theorem bytesCon : bytesA S 132 = 400 := by kernel_rfl
theorem fl117 : FlatOk Tryz.prog 117 3 := by
  refine ⟨by kernel_rfl, fun xs ys ha hb hk w => ?_⟩
  have hf : Tryz.prog.fieldsOf 117 = #[{ name := "Left", type := 2, offset := 0, embedded := false, tag := "", pkgPath := "", byteOffset := 0 },
        { name := "Low", type := 2, offset := 1, embedded := false, tag := "", pkgPath := "", byteOffset := 8 },
        { name := "Value", type := 2, offset := 2, embedded := false, tag := "", pkgPath := "", byteOffset := 16 }] := by
    unfold Program.fieldsOf; rw [Tryz.underlying117]
  have hp : Tryz.prog.plainKey 2 = true := by kernel_rfl
  match xs, ha, ys, hb with
  | [(k0, a0), (k1, a1), (k2, a2)], _, [(l0, b0), (l1, b1), (l2, b2)], _ =>
    simp only [List.map_cons, List.map_nil, List.cons.injEq, and_true] at hk
    obtain ⟨rfl, rfl, rfl⟩ := hk
    show Sem.run _ (Op.equalIn (9999 + 1) 117 _ _) w = _
    rw [run_equalIn_agg w 9999 117 _ _ (by rw [hf]; exact Tryz.underlying117) (by kernel_rfl), hf]
    have p0 : ∀ (xs : Array Value) (off : Nat) (w : World) (h : off < xs.size), Sem.run Tryz.prog (part 2 xs off) w = .ok xs[off] w := fun xs off w h => run_part_plain w hp (by simp [h])
    have e0 : ∀ (d : Nat) (k : IntKind) (a b : Int) (w : World), Sem.run Tryz.prog (Op.equalIn (d + 1) 2 (.int k a) (.int k b)) w = .ok (a == b) w := fun d k a b w => run_equalIn_int w d 2 k _ a b Tryz.underlying2
    simp [Op.eqFields, p0, e0 9998]
    by_cases h0 : a0 = b0 <;> by_cases h1 : a1 = b1 <;> by_cases h2 : a2 = b2 <;> simp [h0, h1, h2]
theorem has_all : ((List.range 368).all fun n => !seatHas n || (match (Tryz.prog).funcs[n]? with | some fn => fn.body.isSome && !(fn.name == "runtime.NumGoroutine") | none => false)) = true := by kernel_rfl
theorem hS : SeatOk S where
  flat := fun T n h => by
    simp only [S, seatFlat] at h
    split at h
    · simp at h; subst h; exact fl117
    · simp at h
  hint := fun T x h => by
    simp only [S, seatHint] at h
    split at h
    · simp at h; subst h; exact ok5
    · simp at h; subst h; exact ok2
    · simp at h; subst h; exact ok3
    · simp at h; subst h; exact ok4
    · simp at h; subst h; exact ok9
    · simp at h; subst h; exact ok238
    · simp at h; subst h; exact ok357
    · simp at h; subst h; exact ok207
    · simp at h; subst h; exact ok225
    · simp at h; subst h; exact ok89
    · simp at h; subst h; exact ok93
    · simp at h; subst h; exact ok91
    · simp at h; subst h; exact ok95
    · simp at h
  nest := fun T x h => by
    simp only [S, seatNest] at h
    split at h
    · simp at h; subst h; exact ⟨nok34, fun _ _ => ⟨⟨_, ok5⟩, trivial⟩⟩
    · simp at h; subst h; exact ⟨nok132, fun y j => match j with | 0 => ⟨⟨_, ok2⟩, trivial⟩ | 1 => ⟨⟨_, ok238⟩, trivial⟩ | 2 => ⟨⟨_, ok238⟩, trivial⟩ | 3 => ⟨⟨_, ok4⟩, trivial⟩ | 4 => ⟨⟨_, ok2⟩, trivial⟩ | 5 => ⟨⟨⟨_, nok34⟩, fun _ _ => ⟨⟨_, ok5⟩, trivial⟩⟩, rfl⟩ | _ + 6 => ⟨⟨_, ok5⟩, trivial⟩⟩
    · simp at h; subst h; exact ⟨nok162, fun y j => match j with | 0 => ⟨⟨_, ok2⟩, trivial⟩ | 1 => ⟨⟨_, ok238⟩, trivial⟩ | 2 => ⟨⟨_, ok238⟩, trivial⟩ | 3 => ⟨⟨_, ok4⟩, trivial⟩ | 4 => ⟨⟨_, ok2⟩, trivial⟩ | 5 => ⟨⟨⟨_, nok34⟩, fun _ _ => ⟨⟨_, ok5⟩, trivial⟩⟩, rfl⟩ | _ + 6 => ⟨⟨_, ok5⟩, trivial⟩⟩
    · simp at h
  mixed := by kernel_rfl
  has := fun n h => by
    have h : seatHas n = true := h
    have hn : @LT.lt Nat _ n 368 := by
      simp only [seatHas, Bool.and_eq_true, Nat.ble_eq] at h
      omega
    have := List.all_eq_true.mp has_all n (List.mem_range.mpr hn)
    simp only [h, Bool.not_true, Bool.false_or] at this
    split at this
    · rename_i fn hf
      simp only [Bool.and_eq_true, Bool.not_eq_true'] at this
      exact ⟨fn, hf, this.1, this.2⟩
    · simp at this
  ext := fun n args K h ρ rs w hr => by
    exact h.elim
theorem wS {c : Code} {σ : St} {kn : St → Prop} {ke : Nat → St → Prop} {kr : St → Prop} (h : StepC S c σ kn ke kr) : Wp S c σ kn ke kr := Wp.step hS h
theorem wL {γ : Type} {R : γ → Prop} {vc : γ → AV} {Hc : γ → Heap} {fn k : Nat} {args0 args : List AV} {l0 : List Ent} {H : Heap} {K : AV → Heap → Prop} (hc : CallA S fn args0 ⟨l0, k⟩ fun v H' => ∃ g, R g ∧ v = vc g ∧ H' = Hc g)
    (h : liftA S args0 l0 k args H fun m => ∀ g, R g → backA (lookR m) k l0 H (vc g) (Hc g) K) : CallA S fn args H K := .liftC hS hc h
theorem wF {σ τ : St} (h : fitsA S σ τ True) : FitsT S σ τ := .now hS h
theorem wD {env : List (Nat × AV)} {H : Heap} {n lo : Nat} {kn : St → Prop} {ke : Nat → St → Prop} {kr : St → Prop} {id : Nat} {ops : Array Oper} {l : List Oper} (p : PlanS) (ds : List Nat) (hB : (Region.noSelect ops && p.top && planSB ops ds p ops.size (Array.replicate ops.size false)) = true)
    (hl : ops.toList = l) (h : Seal (drawS S H l n lo p env H kn)) : Wp S (.region id ops true) ⟨env, H, n, lo⟩ kn ke kr := .drawS hS p ds hB hl h
theorem wD0 {env : List (Nat × AV)} {H : Heap} {n lo : Nat} {kn : St → Prop} {ke : Nat → St → Prop} {kr : St → Prop} {id : Nat} {ops : Array Oper} {l : List Oper} (p : Plan) (ds : List Nat) (hB : (Region.noSelect ops && p.top && planB ops ds p ops.size (Array.replicate ops.size false)) = true)
    (hl : ops.toList = l) (h : Seal (drawA S l n lo p env H kn)) : Wp S (.region id ops true) ⟨env, H, n, lo⟩ kn ke kr := .draw hS p ds hB hl h
end Go.Mu

namespace Go.Mu
open Go Go.Vm Go.RowKit Go.Proofs

@[reducible] def Ret {γ : Type} (R : γ → Prop) (vc : γ → AV) (Hc : γ → Heap) : AV → Heap → Prop := fun v H' => ∃ g, R g ∧ v = vc g ∧ H' = Hc g
@[reducible] def Ret1 (w : AV) (H : Heap) : AV → Heap → Prop := fun v H' => ∃ _ : Unit, True ∧ v = w ∧ H' = H

theorem fill_set {α : Type} {xs : List α} {d : α} {i : Nat} (hi : i < xs.length) : (xs.take i ++ List.replicate (xs.length - i) d).set (i : Int).toNat (xs.getD (i : Int).toNat d) = xs.take (i + 1) ++ List.replicate (xs.length - (i + 1)) d := by
  simp only [Int.toNat_natCast]
  rw [List.set_append, if_neg (by simp; omega)]
  simp only [List.length_take, Nat.min_eq_left (Nat.le_of_lt hi), Nat.sub_self]
  rw [show xs.length - i = (xs.length - (i + 1)) + 1 by omega, List.replicate_succ, List.set_cons_zero, List.take_succ_eq_append_getElem hi, show xs.getD i d = xs[i] by simp [hi], List.append_assoc]
  rfl

theorem getD_all {α : Type} {P : α → Prop} {xs : List α} {d : α} (h : ∀ x ∈ xs, P x) (hd : P d) (i : Nat) : P (xs.getD i d) := by
  by_cases hi : i < xs.length
  · simp only [List.getD_eq_getElem?_getD, List.getElem?_eq_getElem hi, Option.getD_some]
    exact h _ (List.getElem_mem hi)
  · simpa [List.getD_eq_getElem?_getD, List.getElem?_eq_none (Nat.le_of_not_lt hi)] using hd
theorem con0B : ConB con0 := by
  refine ⟨⟨⟨?_⟩, ⟨⟨?_, ?_⟩, ?_, ?_⟩⟩, ⟨?_, ?_, ?_⟩⟩ <;> simp [con0, sumC]
/-- how much a console holds -/
def szC (s : Con) : Nat := s.vt.par.params.length + s.vt.scr.grid.cells.length + s.vt.scr.grid.back.length + s.vt.scr.tabs.length + s.vt.scr.sets.length + s.lin.ready.length + sumC List.length s.lin.ready + s.lin.edit.length
theorem szC_eq (s : Con) : szC s = s.vt.par.params.length + s.vt.scr.grid.cells.length + s.vt.scr.grid.back.length + s.vt.scr.tabs.length + s.vt.scr.sets.length + s.lin.ready.length + sumC List.length s.lin.ready + s.lin.edit.length := rfl
/-- the first k marks -/
def mks {α : Type} (f : Nat → α) (k : Nat) : List α := (List.range k).map f
theorem mks_len {α : Type} (f : Nat → α) (k : Nat) : (mks f k).length = k := by simp [mks]
theorem mks_get {α : Type} {f : Nat → α} {k i : Nat} (h : i < k) (d : α) : (mks f k).getD (i : Int).toNat d = f i := by simp [mks, h]
theorem mks_set {α : Type} {f : Nat → α} {xs : List α} {i : Nat} (h : i < xs.length) : (mks f i ++ xs.drop i).set (i : Int).toNat (f i) = mks f (i + 1) ++ xs.drop (i + 1) := by
  rw [Int.toNat_natCast]
  rw [List.set_append, if_neg (by simp [mks_len]), mks_len, Nat.sub_self, List.drop_eq_getElem_cons h, List.set_cons_zero]
  simp [mks, List.range_succ]
theorem mks_cur {α : Type} {f : Nat → α} {xs : List α} {i : Nat} (h : i < xs.length) (d : α) : (mks f i ++ xs.drop i).getD (i : Int).toNat d = xs.getD i d := by
  rw [Int.toNat_natCast]
  simp [List.getD_eq_getElem?_getD, List.getElem?_append_right, mks_len]
theorem set_two {α β : Type} {l : List (α × β)} {i : Nat} (h : i < l.length) (a : α) (c b : β) (d : α × β) : (l.set (i : Int).toNat (a, c)).set (i : Int).toNat (((l.set (i : Int).toNat (a, c)).getD (i : Int).toNat d).1, b) = l.set (i : Int).toNat (a, b) := by
  simp [List.getD_eq_getElem?_getD, h]
theorem set_four {l : List Qd} {i : Nat} (h : i < l.length) (a b c e : Int) (dd : Qd) : (((l.set (i : Int).toNat (a, (l.getD (i : Int).toNat dd).2)).set (i : Int).toNat (((l.set (i : Int).toNat (a, (l.getD (i : Int).toNat dd).2)).getD (i : Int).toNat dd).1, b, ((l.set (i : Int).toNat (a, (l.getD (i : Int).toNat dd).2)).getD (i : Int).toNat dd).2.2)).set (i : Int).toNat ((((l.set (i : Int).toNat (a, (l.getD (i : Int).toNat dd).2)).set (i : Int).toNat (((l.set (i : Int).toNat (a, (l.getD (i : Int).toNat dd).2)).getD (i : Int).toNat dd).1, b, ((l.set (i : Int).toNat (a, (l.getD (i : Int).toNat dd).2)).getD (i : Int).toNat dd).2.2)).getD (i : Int).toNat dd).1, (((l.set (i : Int).toNat (a, (l.getD (i : Int).toNat dd).2)).set (i : Int).toNat (((l.set (i : Int).toNat (a, (l.getD (i : Int).toNat dd).2)).getD (i : Int).toNat dd).1, b, ((l.set (i : Int).toNat (a, (l.getD (i : Int).toNat dd).2)).getD (i : Int).toNat dd).2.2)).getD (i : Int).toNat dd).2.1, c, (((l.set (i : Int).toNat (a, (l.getD (i : Int).toNat dd).2)).set (i : Int).toNat (((l.set (i : Int).toNat (a, (l.getD (i : Int).toNat dd).2)).getD (i : Int).toNat dd).1, b, ((l.set (i : Int).toNat (a, (l.getD (i : Int).toNat dd).2)).getD (i : Int).toNat dd).2.2)).getD (i : Int).toNat dd).2.2.2)).set (i : Int).toNat (((((l.set (i : Int).toNat (a, (l.getD (i : Int).toNat dd).2)).set (i : Int).toNat (((l.set (i : Int).toNat (a, (l.getD (i : Int).toNat dd).2)).getD (i : Int).toNat dd).1, b, ((l.set (i : Int).toNat (a, (l.getD (i : Int).toNat dd).2)).getD (i : Int).toNat dd).2.2)).set (i : Int).toNat ((((l.set (i : Int).toNat (a, (l.getD (i : Int).toNat dd).2)).set (i : Int).toNat (((l.set (i : Int).toNat (a, (l.getD (i : Int).toNat dd).2)).getD (i : Int).toNat dd).1, b, ((l.set (i : Int).toNat (a, (l.getD (i : Int).toNat dd).2)).getD (i : Int).toNat dd).2.2)).getD (i : Int).toNat dd).1, (((l.set (i : Int).toNat (a, (l.getD (i : Int).toNat dd).2)).set (i : Int).toNat (((l.set (i : Int).toNat (a, (l.getD (i : Int).toNat dd).2)).getD (i : Int).toNat dd).1, b, ((l.set (i : Int).toNat (a, (l.getD (i : Int).toNat dd).2)).getD (i : Int).toNat dd).2.2)).getD (i : Int).toNat dd).2.1, c, (((l.set (i : Int).toNat (a, (l.getD (i : Int).toNat dd).2)).set (i : Int).toNat (((l.set (i : Int).toNat (a, (l.getD (i : Int).toNat dd).2)).getD (i : Int).toNat dd).1, b, ((l.set (i : Int).toNat (a, (l.getD (i : Int).toNat dd).2)).getD (i : Int).toNat dd).2.2)).getD (i : Int).toNat dd).2.2.2)).getD (i : Int).toNat dd).1, ((((l.set (i : Int).toNat (a, (l.getD (i : Int).toNat dd).2)).set (i : Int).toNat (((l.set (i : Int).toNat (a, (l.getD (i : Int).toNat dd).2)).getD (i : Int).toNat dd).1, b, ((l.set (i : Int).toNat (a, (l.getD (i : Int).toNat dd).2)).getD (i : Int).toNat dd).2.2)).set (i : Int).toNat ((((l.set (i : Int).toNat (a, (l.getD (i : Int).toNat dd).2)).set (i : Int).toNat (((l.set (i : Int).toNat (a, (l.getD (i : Int).toNat dd).2)).getD (i : Int).toNat dd).1, b, ((l.set (i : Int).toNat (a, (l.getD (i : Int).toNat dd).2)).getD (i : Int).toNat dd).2.2)).getD (i : Int).toNat dd).1, (((l.set (i : Int).toNat (a, (l.getD (i : Int).toNat dd).2)).set (i : Int).toNat (((l.set (i : Int).toNat (a, (l.getD (i : Int).toNat dd).2)).getD (i : Int).toNat dd).1, b, ((l.set (i : Int).toNat (a, (l.getD (i : Int).toNat dd).2)).getD (i : Int).toNat dd).2.2)).getD (i : Int).toNat dd).2.1, c, (((l.set (i : Int).toNat (a, (l.getD (i : Int).toNat dd).2)).set (i : Int).toNat (((l.set (i : Int).toNat (a, (l.getD (i : Int).toNat dd).2)).getD (i : Int).toNat dd).1, b, ((l.set (i : Int).toNat (a, (l.getD (i : Int).toNat dd).2)).getD (i : Int).toNat dd).2.2)).getD (i : Int).toNat dd).2.2.2)).getD (i : Int).toNat dd).2.1, ((((l.set (i : Int).toNat (a, (l.getD (i : Int).toNat dd).2)).set (i : Int).toNat (((l.set (i : Int).toNat (a, (l.getD (i : Int).toNat dd).2)).getD (i : Int).toNat dd).1, b, ((l.set (i : Int).toNat (a, (l.getD (i : Int).toNat dd).2)).getD (i : Int).toNat dd).2.2)).set (i : Int).toNat ((((l.set (i : Int).toNat (a, (l.getD (i : Int).toNat dd).2)).set (i : Int).toNat (((l.set (i : Int).toNat (a, (l.getD (i : Int).toNat dd).2)).getD (i : Int).toNat dd).1, b, ((l.set (i : Int).toNat (a, (l.getD (i : Int).toNat dd).2)).getD (i : Int).toNat dd).2.2)).getD (i : Int).toNat dd).1, (((l.set (i : Int).toNat (a, (l.getD (i : Int).toNat dd).2)).set (i : Int).toNat (((l.set (i : Int).toNat (a, (l.getD (i : Int).toNat dd).2)).getD (i : Int).toNat dd).1, b, ((l.set (i : Int).toNat (a, (l.getD (i : Int).toNat dd).2)).getD (i : Int).toNat dd).2.2)).getD (i : Int).toNat dd).2.1, c, (((l.set (i : Int).toNat (a, (l.getD (i : Int).toNat dd).2)).set (i : Int).toNat (((l.set (i : Int).toNat (a, (l.getD (i : Int).toNat dd).2)).getD (i : Int).toNat dd).1, b, ((l.set (i : Int).toNat (a, (l.getD (i : Int).toNat dd).2)).getD (i : Int).toNat dd).2.2)).getD (i : Int).toNat dd).2.2.2)).getD (i : Int).toNat dd).2.2.1, e) = l.set (i : Int).toNat (a, b, c, e) := by
  simp [List.getD_eq_getElem?_getD, h]
@[reducible] def mkI (n : Int) (i : Nat) : Int := n + i
@[reducible] def mkU (n : Int) (i : Nat) : Int := IntKind.u8.wrap (n + i)
@[reducible] noncomputable def mkB (n : Int) (i : Nat) : Bool := pb ((n + i) % 3 = 0)
@[reducible] def mkP (n : Int) (i : Nat) : Int × Int := (n + 2 * i, n + 2 * i + 1)
@[reducible] def mkQ (n : Int) (i : Nat) : Qd := (n + 4 * i, n + 4 * i + 1, n + 4 * i + 1 + 1, n + 4 * i + 1 + 1 + 1)

def mkAll {α : Type} (cnt : α → Nat) (mk : Int → α → α) : Int → List α → List α
  | _, [] => []
  | n, x :: r => mk n x :: mkAll cnt mk (n + cnt x) r
section
variable {α : Type} {cnt : α → Nat} {mk : Int → α → α} {xs : List α}
theorem sumC_append : ∀ (xs ys : List α), sumC cnt (xs ++ ys) = sumC cnt xs + sumC cnt ys
  | [], ys => by simp [sumC]
  | x :: r, ys => by simp [sumC, sumC_append r ys, Nat.add_assoc]
theorem sumC_take {i : Nat} (h : i < xs.length) (d : α) : sumC cnt (xs.take (i + 1)) = sumC cnt (xs.take i) + cnt (xs.getD (i : Int).toNat d) := by
  rw [Int.toNat_natCast, List.take_succ_eq_append_getElem h, sumC_append, show xs.getD i d = xs[i] by simp [h]]
  simp [sumC]
theorem sumC_le (i : Nat) : sumC cnt (xs.take i) ≤ sumC cnt xs := by
  have h : sumC cnt (xs.take i ++ xs.drop i) = sumC cnt (xs.take i) + sumC cnt (xs.drop i) := sumC_append _ _
  rw [List.take_append_drop] at h
  omega
theorem sumC_one {i : Nat} (h : i < xs.length) (d : α) : sumC cnt (xs.take i) + cnt (xs.getD (i : Int).toNat d) ≤ sumC cnt xs := by
  rw [← sumC_take h d]
  exact sumC_le _
theorem sumC_get (i : Nat) (d : α) (hd : cnt d = 0) : cnt (xs.getD i d) ≤ sumC cnt xs := by
  by_cases h : i < xs.length
  · have := sumC_one (cnt := cnt) h d
    rw [Int.toNat_natCast] at this
    omega
  · simp [List.getD_eq_getElem?_getD, Nat.le_of_not_lt h, hd]
theorem mkAll_len : ∀ (n : Int) (xs : List α), (mkAll cnt mk n xs).length = xs.length
  | _, [] => rfl
  | n, x :: r => by simp [mkAll, mkAll_len _ r]
theorem mkAll_append : ∀ (n : Int) (xs ys : List α), mkAll cnt mk n (xs ++ ys) = mkAll cnt mk n xs ++ mkAll cnt mk (n + sumC cnt xs) ys
  | n, [], ys => by simp [mkAll, sumC]
  | n, x :: r, ys => by simp [mkAll, sumC, mkAll_append _ r ys, Int.add_assoc]
theorem mkAll_set {n : Int} {i : Nat} (h : i < xs.length) (d : α) : (mkAll cnt mk n (xs.take i) ++ xs.drop i).set (i : Int).toNat (mk (n + sumC cnt (xs.take i)) (xs.getD (i : Int).toNat d)) = mkAll cnt mk n (xs.take (i + 1)) ++ xs.drop (i + 1) := by
  rw [Int.toNat_natCast]
  rw [List.set_append, if_neg (by simp [mkAll_len]; omega), mkAll_len]
  simp only [List.length_take, Nat.min_eq_left (Nat.le_of_lt h), Nat.sub_self]
  rw [List.drop_eq_getElem_cons h, List.set_cons_zero, List.take_succ_eq_append_getElem h, mkAll_append, show xs.getD i d = xs[i] by simp [h]]
  simp [mkAll]
theorem mkAll_cur {n : Int} {i : Nat} (h : i < xs.length) (d : α) : (mkAll cnt mk n (xs.take i) ++ xs.drop i).getD (i : Int).toNat d = xs.getD (i : Int).toNat d := by
  rw [Int.toNat_natCast]
  simp [List.getD_eq_getElem?_getD, List.getElem?_append_right, mkAll_len, Nat.min_eq_left (Nat.le_of_lt h)]
theorem mkAll_get {n : Int} {i : Nat} (h : i < xs.length) (d : α) : (mkAll cnt mk n xs).getD (i : Int).toNat d = mk (n + sumC cnt (xs.take i)) (xs.getD (i : Int).toNat d) := by
  rw [Int.toNat_natCast]
  conv => lhs; rw [← List.take_append_drop i xs, mkAll_append, List.drop_eq_getElem_cons h]
  simp [List.getD_eq_getElem?_getD, mkAll_len, mkAll, Nat.min_eq_left (Nat.le_of_lt h), h]
end
end Go.Mu
