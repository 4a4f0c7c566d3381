/- The seat: which functions are entered, how data lie. -/
import Derived.Test.YtfjodggmmokaaaaGreatDAJ
import Derived.Test.YtfjodggmmokaaaaGreatChecked
import Derived.KernelRfl
import Derived.ChangeKeysEq
set_option linter.unusedSimpArgs false
set_option linter.unusedVariables false
set_option linter.constructorNameAsVariable false
namespace Go.Mu
open Go Go.Vm Go.RowKit Go.Proofs
noncomputable def seatHint (T : TypeId) : Option EncAny := match T with
  | 5 => some ⟨_, intE .u8⟩
  | 2 => some ⟨_, intE .i64⟩
  | 3 => some ⟨_, intE .i64⟩
  | 4 => some ⟨_, boolE⟩
  | 9 => some ⟨_, strE⟩
  | 267 => some ⟨_, pairE⟩
  | 272 => some ⟨_, pairE⟩
  | 307 => some ⟨_, pairE⟩
  | 309 => some ⟨_, pairE⟩
  | 247 => some ⟨_, pairE⟩
  | 251 => some ⟨_, pairE⟩
  | 249 => some ⟨_, quadE⟩
  | 253 => some ⟨_, quadE⟩
  | _ => none
noncomputable def seatNest (T : TypeId) : Option NestAny := match T with
  | 57 => some ⟨_, 1, [], bytesG, [0], bytesF⟩
  | 86 => some ⟨_, 38, con0, conG, [0, 1, 2, 3, 4, 5, 6], conF⟩
  | 81 => some ⟨_, 38, con0, conG, [0, 1, 2, 3, 4, 5, 6], conF⟩
  | _ => none
def seatHas (n : Nat) : Bool := Nat.ble 8 n && Nat.ble n 383
def seatExt (n : Nat) (args : List AV) (K : AV → Prop) : Prop := match n with
  | _ => False
def seatFlat (T : TypeId) : Option Nat := match T with
  | 59 => some 3
  | _ => none
noncomputable def S : Seat := { P := Tryz.prog, hint := seatHint, flat := seatFlat, has := seatHas, ext := seatExt, nest := seatNest }
theorem ok5 : EncOk Tryz.prog 5 (intE .u8) := intE_ok (by kernel_rfl) (by kernel_rfl)
theorem ok2 : EncOk Tryz.prog 2 (intE .i64) := intE_ok (by kernel_rfl) (by kernel_rfl)
theorem hint_i64 : ∃ T, S.hint T = some ⟨_, intE .i64⟩ := ⟨2, rfl⟩
theorem ok3 : EncOk Tryz.prog 3 (intE .i64) := intE_ok (by kernel_rfl) (by kernel_rfl)
theorem ok4 : EncOk Tryz.prog 4 (boolE) := boolE_ok (by kernel_rfl) (by kernel_rfl)
theorem hint_bool : ∃ T, S.hint T = some ⟨_, boolE⟩ := ⟨4, rfl⟩
theorem ok9 : EncOk Tryz.prog 9 (strE) := strE_ok (by kernel_rfl) (by kernel_rfl)
theorem ok267 : EncOk Tryz.prog 267 (pairE) := pairE_ok (by kernel_rfl) (by kernel_rfl)
theorem hint_pair : ∃ T, S.hint T = some ⟨_, pairE⟩ := ⟨267, rfl⟩
theorem ok272 : EncOk Tryz.prog 272 (pairE) := pairE_ok (by kernel_rfl) (by kernel_rfl)
theorem ok307 : EncOk Tryz.prog 307 (pairE) := pairE_ok (by kernel_rfl) (by kernel_rfl)
theorem ok309 : EncOk Tryz.prog 309 (pairE) := pairE_ok (by kernel_rfl) (by kernel_rfl)
theorem ok247 : EncOk Tryz.prog 247 (pairE) := pairE_ok (by kernel_rfl) (by kernel_rfl)
theorem ok251 : EncOk Tryz.prog 251 (pairE) := pairE_ok (by kernel_rfl) (by kernel_rfl)
theorem ok249 : EncOk Tryz.prog 249 (quadE) := quadE_ok (by kernel_rfl) (by kernel_rfl)
theorem ok253 : EncOk Tryz.prog 253 (quadE) := quadE_ok (by kernel_rfl) (by kernel_rfl)
theorem nok57 : NestOk Tryz.prog 57 1 [] bytesG [0] bytesF := bytesN_ok (by kernel_rfl) (by kernel_rfl)
theorem nok86 : NestOk Tryz.prog 86 38 con0 conG [0, 1, 2, 3, 4, 5, 6] conF := consN_ok (by kernel_rfl) (by kernel_rfl)
theorem nok81 : NestOk Tryz.prog 81 38 con0 conG [0, 1, 2, 3, 4, 5, 6] conF := consN_ok (by kernel_rfl) (by kernel_rfl)
theorem fl59 : FlatOk Tryz.prog 59 3 := by
  refine ⟨by kernel_rfl, fun xs ys ha hb hk w => ?_⟩
  have hf : Tryz.prog.fieldsOf 59 = #[{ name := "Left", type := 2, offset := 0, embedded := false, tag := "", pkgPath := "", byteOffset := 0 },
        { name := "Low", type := 2, offset := 1, embedded := false, tag := "", pkgPath := "", byteOffset := 8 },
        { name := "Value", type := 2, offset := 2, embedded := false, tag := "", pkgPath := "", byteOffset := 16 }] := by
    unfold Program.fieldsOf; rw [Tryz.underlying59]
  have hp : Tryz.prog.plainKey 2 = true := by kernel_rfl
  match xs, ha, ys, hb with
  | [(k0, a0), (k1, a1), (k2, a2)], _, [(l0, b0), (l1, b1), (l2, b2)], _ =>
    simp only [List.map_cons, List.map_nil, List.cons.injEq, and_true] at hk
    obtain ⟨rfl, rfl, rfl⟩ := hk
    show Sem.run _ (Op.equalIn (9999 + 1) 59 _ _) w = _
    rw [run_equalIn_agg w 9999 59 _ _ (by rw [hf]; exact Tryz.underlying59) (by kernel_rfl), hf]
    have p0 : ∀ (xs : Array Value) (off : Nat) (w : World) (h : off < xs.size), Sem.run Tryz.prog (part 2 xs off) w = .ok xs[off] w := fun xs off w h => run_part_plain w hp (by simp [h])
    have e0 : ∀ (d : Nat) (k : IntKind) (a b : Int) (w : World), Sem.run Tryz.prog (Op.equalIn (d + 1) 2 (.int k a) (.int k b)) w = .ok (a == b) w := fun d k a b w => run_equalIn_int w d 2 k _ a b Tryz.underlying2
    simp [Op.eqFields, p0, e0 9998]
    by_cases h0 : a0 = b0 <;> by_cases h1 : a1 = b1 <;> by_cases h2 : a2 = b2 <;> simp [h0, h1, h2]
theorem has_all : ((List.range 384).all fun n => !seatHas n || (match (Tryz.prog).funcs[n]? with | some fn => fn.body.isSome && !(fn.name == "runtime.NumGoroutine") | none => false)) = true := by kernel_rfl
theorem hS : SeatOk S where
  flat := fun T n h => by
    simp only [S, seatFlat] at h
    split at h
    · simp at h; subst h; exact fl59
    · simp at h
  hint := fun T x h => by
    simp only [S, seatHint] at h
    split at h
    · simp at h; subst h; exact ok5
    · simp at h; subst h; exact ok2
    · simp at h; subst h; exact ok3
    · simp at h; subst h; exact ok4
    · simp at h; subst h; exact ok9
    · simp at h; subst h; exact ok267
    · simp at h; subst h; exact ok272
    · simp at h; subst h; exact ok307
    · simp at h; subst h; exact ok309
    · simp at h; subst h; exact ok247
    · simp at h; subst h; exact ok251
    · simp at h; subst h; exact ok249
    · simp at h; subst h; exact ok253
    · simp at h
  nest := fun T x h => by
    simp only [S, seatNest] at h
    split at h
    · simp at h; subst h; exact ⟨nok57, fun _ _ => ⟨⟨_, ok5⟩, trivial⟩⟩
    · simp at h; subst h; exact ⟨nok86, fun y j => match j with | 0 => ⟨⟨_, ok2⟩, trivial⟩ | 1 => ⟨⟨_, ok267⟩, trivial⟩ | 2 => ⟨⟨_, ok267⟩, trivial⟩ | 3 => ⟨⟨_, ok4⟩, trivial⟩ | 4 => ⟨⟨_, ok2⟩, trivial⟩ | 5 => ⟨⟨⟨_, nok57⟩, fun _ _ => ⟨⟨_, ok5⟩, trivial⟩⟩, rfl⟩ | _ + 6 => ⟨⟨_, ok5⟩, trivial⟩⟩
    · simp at h; subst h; exact ⟨nok81, fun y j => match j with | 0 => ⟨⟨_, ok2⟩, trivial⟩ | 1 => ⟨⟨_, ok267⟩, trivial⟩ | 2 => ⟨⟨_, ok267⟩, trivial⟩ | 3 => ⟨⟨_, ok4⟩, trivial⟩ | 4 => ⟨⟨_, ok2⟩, trivial⟩ | 5 => ⟨⟨⟨_, nok57⟩, fun _ _ => ⟨⟨_, ok5⟩, trivial⟩⟩, rfl⟩ | _ + 6 => ⟨⟨_, ok5⟩, trivial⟩⟩
    · simp at h
  mixed := by kernel_rfl
  has := fun n h => by
    have h : seatHas n = true := h
    have hn : @LT.lt Nat _ n 384 := by
      simp only [seatHas, Bool.and_eq_true, Nat.ble_eq] at h
      omega
    have := List.all_eq_true.mp has_all n (List.mem_range.mpr hn)
    simp only [h, Bool.not_true, Bool.false_or] at this
    split at this
    · rename_i fn hf
      simp only [Bool.and_eq_true, Bool.not_eq_true'] at this
      exact ⟨fn, hf, this.1, this.2⟩
    · simp at this
  ext := fun n args K h ρ rs w hr => by
    exact h.elim
theorem wS {c : Code} {σ : St} {kn : St → Prop} {ke : Nat → St → Prop} {kr : St → Prop} (h : StepC S c σ kn ke kr) : Wp S c σ kn ke kr := Wp.step hS h
theorem wL {γ : Type} {R : γ → Prop} {vc : γ → AV} {Hc : γ → Heap} {fn k : Nat} {args0 args : List AV} {l0 : List Ent} {H : Heap} {K : AV → Heap → Prop} (hc : CallA S fn args0 ⟨l0, k⟩ fun v H' => ∃ g, R g ∧ v = vc g ∧ H' = Hc g)
    (h : liftA S args0 l0 k args H fun m => ∀ g, R g → backA (lookR m) k l0 H (vc g) (Hc g) K) : CallA S fn args H K := .liftC hS hc h
theorem wF {σ τ : St} (h : fitsA S σ τ True) : FitsT S σ τ := .now hS h
theorem sM {a b : Prop} (h : a) (k : b) : Seal a ∧ Seal b := ⟨.mk h, .mk k⟩
theorem aL {a b : Prop} (k : b) (h : a := by exact leaf) : a ∧ b := ⟨h, k⟩
theorem oL {a b c : Prop} (k : b) (h : a := by exact leaf) : (a ∧ b) ∨ c := .inl ⟨h, k⟩
theorem lf {P : Prop} (h : P := by (fail_if_success refine Exists.intro ?_ ?_); exact leaf) : P := h
theorem fz {P : Prop} (h : P := by
  (try refine wF ?_)
  repeat' (first|exact ⟨⟩|(apply And.intro;focus exact leaf)|((conv=>whnf);first|exact ⟨⟩|(apply And.intro;focus exact leaf))|fail)
  (first | done | fail)) : P := h
theorem wD {env : List (Nat × AV)} {H : Heap} {n lo : Nat} {kn : St → Prop} {ke : Nat → St → Prop} {kr : St → Prop} {id : Nat} {ops : Array Oper} {l : List Oper} (p : PlanS) (ds : List Nat) (hB : (Region.noSelect ops && p.top && planSB ops ds p ops.size (Array.replicate ops.size false)) = true)
    (hl : ops.toList = l) (h : Seal (drawS S H l n lo p env H kn)) : Wp S (.region id ops true) ⟨env, H, n, lo⟩ kn ke kr := .drawS hS p ds hB hl h
end Go.Mu

namespace Go.Mu
open Go Go.Vm Go.RowKit Go.Proofs
theorem leafQ {P : Prop} (h : P := by
  first
  | exact leaf
  | exact PreC.of_eq rfl
  | rfl
  | exact Bool.false_ne_true
  | exact ⟨rfl, rfl⟩
  | fail) : P := h
theorem aLQ {a b : Prop} (k : b) (h : a := by exact leafQ) : a ∧ b := ⟨h, k⟩
theorem oLQ {a b c : Prop} (k : b) (h : a := by exact leafQ) : (a ∧ b) ∨ c := .inl ⟨h, k⟩
theorem lfQ {P : Prop} (h : P := by (fail_if_success refine Exists.intro ?_ ?_); exact leafQ) : P := h
theorem fzQ {P : Prop} (h : P := by
  (try refine wF ?_)
  repeat' (first|exact ⟨⟩|(apply And.intro;focus exact leafQ)|((conv=>whnf);first|exact ⟨⟩|(apply And.intro;focus exact leafQ))|fail)
  (first | done | fail)) : P := h
end Go.Mu

namespace Go.Mu
open Go Go.Vm Go.RowKit Go.Proofs
@[reducible] def Ret {γ : Type} (R : γ → Prop) (vc : γ → AV) (Hc : γ → Heap) : AV → Heap → Prop := fun v H' => ∃ g, R g ∧ v = vc g ∧ H' = Hc g
@[reducible] def Ret1 (w : AV) (H : Heap) : AV → Heap → Prop := fun v H' => ∃ _ : Unit, True ∧ v = w ∧ H' = H
theorem fill_set {α : Type} {xs : List α} {d : α} {i : Nat} (hi : i < xs.length) : (xs.take i ++ List.replicate (xs.length - i) d).set (i : Int).toNat (xs.getD (i : Int).toNat d) = xs.take (i + 1) ++ List.replicate (xs.length - (i + 1)) d := by
  simp only [Int.toNat_natCast]
  rw [List.set_append, if_neg (by simp; omega)]
  simp only [List.length_take, Nat.min_eq_left (Nat.le_of_lt hi), Nat.sub_self]
  rw [show xs.length - i = (xs.length - (i + 1)) + 1 by omega, List.replicate_succ, List.set_cons_zero, List.take_succ_eq_append_getElem hi, show xs.getD i d = xs[i] by simp [hi], List.append_assoc]
  rfl
theorem getD_all {α : Type} {P : α → Prop} {xs : List α} {d : α} (h : ∀ x ∈ xs, P x) (hd : P d) (i : Nat) : P (xs.getD i d) := by
  by_cases hi : i < xs.length
  · simp only [List.getD_eq_getElem?_getD, List.getElem?_eq_getElem hi, Option.getD_some]
    exact h _ (List.getElem_mem hi)
  · simpa [List.getD_eq_getElem?_getD, List.getElem?_eq_none (Nat.le_of_not_lt hi)] using hd
def mks {α : Type} (f : Nat → α) (k : Nat) : List α := (List.range k).map f
theorem mks_len {α : Type} (f : Nat → α) (k : Nat) : (mks f k).length = k := by simp [mks]
theorem mks_get {α : Type} {f : Nat → α} {k i : Nat} (h : i < k) (d : α) : (mks f k).getD (i : Int).toNat d = f i := by simp [mks, h]
theorem mks_set {α : Type} {f : Nat → α} {xs : List α} {i : Nat} (h : i < xs.length) : (mks f i ++ xs.drop i).set (i : Int).toNat (f i) = mks f (i + 1) ++ xs.drop (i + 1) := by
  rw [Int.toNat_natCast]
  rw [List.set_append, if_neg (by simp [mks_len]), mks_len, Nat.sub_self, List.drop_eq_getElem_cons h, List.set_cons_zero]
  simp [mks, List.range_succ]
theorem set_two {α β : Type} {l : List (α × β)} {i : Nat} (h : i < l.length) (a : α) (c b : β) (d : α × β) : (l.set (i : Int).toNat (a, c)).set (i : Int).toNat (((l.set (i : Int).toNat (a, c)).getD (i : Int).toNat d).1, b) = l.set (i : Int).toNat (a, b) := by
  simp [List.getD_eq_getElem?_getD, h]
@[reducible] def mkI (n : Int) (i : Nat) : Int := n + i
@[reducible] noncomputable def mkB (n : Int) (i : Nat) : Bool := pb ((n + i) % 3 = 0)
@[reducible] def mkP (n : Int) (i : Nat) : Int × Int := (n + 2 * i, n + 2 * i + 1)
section
variable {α : Type} {cnt : α → Nat} {mk : Int → α → α} {xs : List α}
end
end Go.Mu

namespace Go.Mu
open Go Go.Vm Go.RowKit Go.Proofs
attribute [local irreducible] wpA opsA stillA drawA drawS
set_option maxRecDepth 20000
set_option maxHeartbeats 4000000
theorem toInt64S (xs : List Int) (hx : xs.length ≤ 1048576) : CallA S 63 [.sl (.loc 0) 1 none xs.length] ⟨[⟨.loc 0, false, .arr (intE .i64) xs⟩], 1⟩ (Ret1 (.sl (.loc 1) 1 none xs.length) ⟨[⟨.loc 1, true, .arr (intE .i64) xs⟩], 2⟩) := by
  refine .ofC hS _ _ _ Tryz.func63 ?_
  conv => whnf
  repeat' (first|refine Seal.mk ?_|(refine wS ?_;(conv=>whnf);fail_if_success show False)|((first|refine opsA_step ?_);conv=>whnf)|(intro _;first|omega|conv=>whnf)|(apply And.intro<;>intro _<;>first|omega|conv=>whnf)|((first|refine aL ?_|refine oL ?_|refine ⟨_,rfl,?_⟩|refine ⟨_,⟨rfl,rfl⟩,?_⟩|refine ⟨_,⟨rfl,rfl,leaf⟩,?_⟩);conv=>whnf)|with_reducible assumption|exact lf|fail)
  refine .loop hS (γ := Nat) (fun i => ⟨[(0, .sl (.loc 0) 1 none xs.length), (3, .sl (.loc 1) 1 none xs.length), (4, .int .i64 i)],
    ⟨[⟨.loc 1, true, .arr (intE .i64) (xs.take i ++ List.replicate (xs.length - i) (intE .i64).d)⟩, ⟨.loc 0, false, .arr (intE .i64) xs⟩], 2⟩, 22, 1⟩) (fun i => i ≤ xs.length) (fun i => xs.length - i) 0 (by omega) ?_ ?_
  · ((try dsimp only);exact fz)
  · intro i hi
    have hl : (xs.take i ++ List.replicate (xs.length - i) (intE .i64).d).length = xs.length := by simp; omega
    conv => whnf
    repeat' (first|refine Seal.mk ?_|(refine wS ?_;(conv=>whnf);fail_if_success show False)|((first|refine opsA_step ?_);conv=>whnf)|(intro _;first|omega|conv=>whnf)|(apply And.intro<;>intro _<;>first|omega|conv=>whnf)|((first|refine aL ?_|refine oL ?_|refine ⟨_,rfl,?_⟩|refine ⟨_,⟨rfl,rfl⟩,?_⟩|refine ⟨_,⟨rfl,rfl,leaf⟩,?_⟩);conv=>whnf)|with_reducible assumption|exact lf|fail)
    · have hs : (xs.take i ++ List.replicate (xs.length - i) (intE .i64).d).set (i : Int).toNat (xs.getD (i : Int).toNat (intE .i64).d) = xs.take (i + 1) ++ List.replicate (xs.length - (i + 1)) (intE .i64).d := fill_set (by omega)
      refine ⟨i + 1, ⟨by omega, by omega⟩, ?_⟩
      skip
      ((try dsimp only);exact fz)
    · have hi : i = xs.length := by omega
      subst hi
      have h0 : xs.take xs.length ++ List.replicate (xs.length - xs.length) (intE .i64).d = xs := by simp
      (refine ⟨(),⟨⟩,?_⟩;exact fz)
theorem toCell (c : Int × Int) : CallA S 230 [.agg [.int .i64 c.1, .int .i64 c.2]] ⟨[], 0⟩ (Ret1 (.agg [.int .i64 c.1, .int .i64 c.2]) ⟨[], 0⟩) := by
  refine .ofC hS _ _ _ Tryz.func230 ?_
  conv => whnf
  repeat' (first|refine Seal.mk ?_|(refine wS ?_;(conv=>whnf);fail_if_success show False)|((first|refine opsA_step ?_);conv=>whnf)|(intro _;first|omega|conv=>whnf)|(apply And.intro<;>intro _<;>first|omega|conv=>whnf)|((first|refine aL ?_|refine ⟨_,rfl,?_⟩|refine ⟨_,⟨rfl,rfl⟩,?_⟩|refine ⟨_,⟨rfl,rfl,leaf⟩,?_⟩);conv=>whnf)|with_reducible assumption|exact lf|fail)
  (refine ⟨(),⟨⟩,?_⟩;exact fz)
theorem toCellS (xs : List (Int × Int)) (hx : xs.length ≤ 1048576) : CallA S 142 [.sl (.loc 0) 2 none xs.length] ⟨[⟨.loc 0, false, .arr pairE xs⟩], 1⟩ (Ret1 (.sl (.loc 1) 2 none xs.length) ⟨[⟨.loc 1, true, .arr pairE xs⟩], 2⟩) := by
  refine .ofC hS _ _ _ Tryz.func142 ?_
  conv => whnf
  repeat' (first|refine Seal.mk ?_|(refine wS ?_;(conv=>whnf);fail_if_success show False)|((first|refine opsA_step ?_);conv=>whnf)|(intro _;first|omega|conv=>whnf)|(apply And.intro<;>intro _<;>first|omega|conv=>whnf)|((first|refine aL ?_|refine oL ?_|refine ⟨_,rfl,?_⟩|refine ⟨_,⟨rfl,rfl⟩,?_⟩|refine ⟨_,⟨rfl,rfl,leaf⟩,?_⟩);conv=>whnf)|with_reducible assumption|exact lf|fail)
  refine .loop hS (γ := Nat) (fun i => ⟨[(0, .sl (.loc 0) 2 none xs.length), (3, .sl (.loc 1) 2 none xs.length), (4, .int .i64 i)],
    ⟨[⟨.loc 1, true, .arr pairE (xs.take i ++ List.replicate (xs.length - i) pairE.d)⟩, ⟨.loc 0, false, .arr pairE xs⟩], 2⟩, 23, 1⟩) (fun i => i ≤ xs.length) (fun i => xs.length - i) 0 (by omega) ?_ ?_
  · ((try dsimp only);exact fz)
  · intro i hi
    have hl : (xs.take i ++ List.replicate (xs.length - i) pairE.d).length = xs.length := by simp; omega
    conv => whnf
    repeat' (first|refine Seal.mk ?_|(refine wS ?_;(conv=>whnf);fail_if_success show False)|((first|refine opsA_step ?_|apply wL (toCell _));conv=>whnf)|(intro _;first|omega|conv=>whnf)|(apply And.intro<;>intro _<;>first|omega|conv=>whnf)|((first|refine aL ?_|refine oL ?_|refine ⟨_,rfl,?_⟩|refine ⟨_,⟨rfl,rfl⟩,?_⟩|refine ⟨_,⟨rfl,rfl,leaf⟩,?_⟩);conv=>whnf)|with_reducible assumption|exact lf|fail)
    · have hs : (xs.take i ++ List.replicate (xs.length - i) pairE.d).set (i : Int).toNat ((xs.getD (i : Int).toNat pairE.d).1, (xs.getD (i : Int).toNat pairE.d).2) = xs.take (i + 1) ++ List.replicate (xs.length - (i + 1)) pairE.d := fill_set (by omega)
      refine ⟨i + 1, ⟨by omega, by omega⟩, ?_⟩
      skip
      ((try dsimp only);exact fz)
    · have hi : i = xs.length := by omega
      subst hi
      have h0 : xs.take xs.length ++ List.replicate (xs.length - xs.length) pairE.d = xs := by simp
      (refine ⟨(),⟨⟩,?_⟩;exact fz)
theorem toBoolS (xs : List Bool) (hx : xs.length ≤ 1048576) : CallA S 62 [.sl (.loc 0) 1 none xs.length] ⟨[⟨.loc 0, false, .arr boolE xs⟩], 1⟩ (Ret1 (.sl (.loc 1) 1 none xs.length) ⟨[⟨.loc 1, true, .arr boolE xs⟩], 2⟩) := by
  refine .ofC hS _ _ _ Tryz.func62 ?_
  conv => whnf
  repeat' (first|refine Seal.mk ?_|(refine wS ?_;(conv=>whnf);fail_if_success show False)|((first|refine opsA_step ?_);conv=>whnf)|(intro _;first|omega|conv=>whnf)|(apply And.intro<;>intro _<;>first|omega|conv=>whnf)|((first|refine aL ?_|refine oL ?_|refine ⟨_,rfl,?_⟩|refine ⟨_,⟨rfl,rfl⟩,?_⟩|refine ⟨_,⟨rfl,rfl,leaf⟩,?_⟩);conv=>whnf)|with_reducible assumption|exact lf|fail)
  refine .loop hS (γ := Nat) (fun i => ⟨[(0, .sl (.loc 0) 1 none xs.length), (3, .sl (.loc 1) 1 none xs.length), (4, .int .i64 i)],
    ⟨[⟨.loc 1, true, .arr boolE (xs.take i ++ List.replicate (xs.length - i) boolE.d)⟩, ⟨.loc 0, false, .arr boolE xs⟩], 2⟩, 22, 1⟩) (fun i => i ≤ xs.length) (fun i => xs.length - i) 0 (by omega) ?_ ?_
  · ((try dsimp only);exact fz)
  · intro i hi
    have hl : (xs.take i ++ List.replicate (xs.length - i) boolE.d).length = xs.length := by simp; omega
    conv => whnf
    repeat' (first|refine Seal.mk ?_|(refine wS ?_;(conv=>whnf);fail_if_success show False)|((first|refine opsA_step ?_);conv=>whnf)|(intro _;first|omega|conv=>whnf)|(apply And.intro<;>intro _<;>first|omega|conv=>whnf)|((first|refine aL ?_|refine oL ?_|refine ⟨_,rfl,?_⟩|refine ⟨_,⟨rfl,rfl⟩,?_⟩|refine ⟨_,⟨rfl,rfl,leaf⟩,?_⟩);conv=>whnf)|with_reducible assumption|exact lf|fail)
    · have hs : (xs.take i ++ List.replicate (xs.length - i) boolE.d).set (i : Int).toNat (xs.getD (i : Int).toNat boolE.d) = xs.take (i + 1) ++ List.replicate (xs.length - (i + 1)) boolE.d := fill_set (by omega)
      refine ⟨i + 1, ⟨by omega, by omega⟩, ?_⟩
      try simp only [pb_bool]
      ((try dsimp only);exact fz)
    · have hi : i = xs.length := by omega
      subst hi
      have h0 : xs.take xs.length ++ List.replicate (xs.length - xs.length) boolE.d = xs := by simp
      (refine ⟨(),⟨⟩,?_⟩;exact fz)
end Go.Mu

namespace Go.Mu
open Go Go.Vm Go.RowKit Go.Proofs
attribute [local irreducible] wpA opsA stillA drawA drawS
set_option maxRecDepth 20000
set_option maxHeartbeats 4000000
theorem toGrid (s : Grd) (h : GrdB s) : CallA S 61 [.agg (grdC (.loc 0) (.loc 1) s)] ⟨grdH false (.loc 0) (.loc 1) s [], 2⟩ (Ret1 (.agg (grdC (.loc 2) (.loc 3) s)) ⟨grdH true (.loc 2) (.loc 3) s [], 4⟩) := by
  refine .ofC hS _ _ _ Tryz.func61 ?_
  conv => whnf
  obtain ⟨h0, h1⟩ := h
  repeat' (first|refine Seal.mk ?_|(refine wS ?_;(conv=>whnf);fail_if_success show False)|((first|refine opsA_step ?_|apply wL (toCellS _ _));conv=>whnf)|(intro _;first|omega|conv=>whnf)|(apply And.intro<;>intro _<;>first|omega|conv=>whnf)|((first|refine aL ?_|refine ⟨_,rfl,?_⟩|refine ⟨_,⟨rfl,rfl⟩,?_⟩|refine ⟨_,⟨rfl,rfl,leaf⟩,?_⟩);conv=>whnf)|with_reducible assumption|exact lf|fail)
  (refine ⟨(),⟨⟩,?_⟩;exact fz)
theorem toScreen (s : Scr) (h : ScrB s) : CallA S 11 [.agg (scrC (.loc 0) (.loc 1) (.loc 2) (.loc 3) s)] ⟨scrH false (.loc 0) (.loc 1) (.loc 2) (.loc 3) s [], 4⟩ (Ret1 (.agg (scrC (.loc 4) (.loc 5) (.loc 6) (.loc 7) s)) ⟨scrH true (.loc 4) (.loc 5) (.loc 6) (.loc 7) s [], 8⟩) := by
  refine .ofC hS _ _ _ Tryz.func11 ?_
  conv => whnf
  obtain ⟨h0, h1, h2⟩ := h
  repeat' (first|refine Seal.mk ?_|(refine wS ?_;(conv=>whnf);fail_if_success show False)|((first|refine opsA_step ?_|apply wL (toGrid _ _)|apply wL (toBoolS _ _)|apply wL (toInt64S _ _));conv=>whnf)|(intro _;first|omega|conv=>whnf)|(apply And.intro<;>intro _<;>first|omega|conv=>whnf)|((first|refine aL ?_|refine ⟨_,rfl,?_⟩|refine ⟨_,⟨rfl,rfl⟩,?_⟩|refine ⟨_,⟨rfl,rfl,leaf⟩,?_⟩);conv=>whnf)|with_reducible assumption|exact lf|fail)
  (refine ⟨(),⟨⟩,?_⟩;exact fz)
end Go.Mu
