/- An abstract machine over the loaded code: control. -/
import Derived.Test.YtfndendpfahbcaaGreatDoorVm14
set_option linter.unusedSimpArgs false
set_option linter.unusedVariables false
namespace Go.Vm
open Go.RowKit

/-- how a run stands to what is thought of it -/
structure Inv (S : Seat) (ρ0 : Loc) (H0 : Heap) (w0 : World) (σ : St) (ρ : Loc) (a : Act) (w : World) : Prop where
  env : ∀ t, VRel ρ (look σ.env t) (a.tmps.getD t undef) ∧ (look σ.env t).lt σ.H.next
  size : a.tmps.size = σ.n
  defers : a.defers = []
  lo : H0.next = σ.lo
  after : After S ρ0 H0 w0 ρ σ.H w

/-- behind a piece of code -/
def QA (S : Seat) (ρ0 : Loc) (H0 : Heap) (w0 : World) (kn : St → Prop) (ke : Nat → St → Prop) (kr : St → Prop) : Exit → Act → World → Prop
  | .normal, a, w => ∃ σ ρ, kn σ ∧ Inv S ρ0 H0 w0 σ ρ a w
  | .exit i, a, w => ∃ σ ρ, ke i σ ∧ Inv S ρ0 H0 w0 σ ρ a w
  | .ret, a, w => ∃ σ ρ, kr σ ∧ Inv S ρ0 H0 w0 σ ρ a w
  | _, _, _ => False

/-- code that is shown by other means: loops, and regions that draw -/
@[irreducible] def Wp (S : Seat) (c : Code) (σ : St) (kn : St → Prop) (ke : Nat → St → Prop) (kr : St → Prop) : Prop :=
  ∀ ρ0 H0 w0 ρ a w, Inv S ρ0 H0 w0 σ ρ a w → c.wp S.P (QA S ρ0 H0 w0 kn ke kr) a w

def wpA (S : Seat) : Code → St → (St → Prop) → (Nat → St → Prop) → (St → Prop) → Prop
  | .skip, σ, kn, _, _ => kn σ
  | .seq x y, σ, kn, ke, kr => wpA S x σ (fun σ => wpA S y σ kn ke kr) ke kr
  | .cond c x y, ⟨env, H, n, lo⟩, kn, ke, kr => match evA env c with
    | .tt => wpA S x ⟨env, H, n, lo⟩ kn ke kr
    | .ff => wpA S y ⟨env, H, n, lo⟩ kn ke kr
    | .prop p => match c with
      | .tmp t => (p → wpA S x ⟨(t, .tt) :: env, H, n, lo⟩ kn ke kr) ∧ (¬p → wpA S y ⟨(t, .ff) :: env, H, n, lo⟩ kn ke kr)
      | _ => (p → wpA S x ⟨env, H, n, lo⟩ kn ke kr) ∧ (¬p → wpA S y ⟨env, H, n, lo⟩ kn ke kr)
    | _ => False
  | .block id x, σ, kn, ke, kr => wpA S x σ kn (fun i σ => match Nat.beq i id with | true => kn σ | false => ke i σ) kr
  | .exit id, σ, _, ke, _ => ke id σ
  | .ret, σ, _, _, kr => kr σ
  | .region id ops d, ⟨env, H, n, lo⟩, kn, ke, kr => match d with
    | false => opsA S ops.toList n lo ops.toList env H kn
    | true => Wp S (.region id ops true) ⟨env, H, n, lo⟩ kn ke kr
  | .loop x, σ, kn, ke, kr => Wp S (.loop x) σ kn ke kr
  | _, _, _, _, _ => False

section
variable {S : Seat} {ρ0 : Loc} {H0 : Heap} {w0 : World} {σ : St} {ρ : Loc} {a : Act} {w : World} {kn kn' : St → Prop} {ke ke' : Nat → St → Prop} {kr kr' : St → Prop}

theorem look_refine {ρ : Loc} {N : Nat} {env : List (Nat × AV)} {t : Nat} {v : AV} (hv : ∀ r, VRel ρ (look env t) r → VRel ρ v r) (hl : v.lt N) {f : Nat → Value}
    (h : ∀ t, VRel ρ (look env t) (f t) ∧ (look env t).lt N) : ∀ s, VRel ρ (look ((t, v) :: env) s) (f s) ∧ (look ((t, v) :: env) s).lt N := by
  intro s
  unfold look
  split
  · rename_i e
    have e := Nat.eq_of_beq_eq_true e
    subst e
    exact ⟨hv _ (h _).1, hl⟩
  · exact h s

theorem prop_tt {ρ : Loc} {p : Prop} (hp : p) {v : AV} (e : v = .prop p) (r : Value) (h : VRel ρ v r) : VRel ρ .tt r := by
  subst e
  obtain ⟨b, rfl, hb⟩ := h
  rw [hb.2 hp]; rfl
theorem prop_ff {ρ : Loc} {p : Prop} (hp : ¬p) {v : AV} (e : v = .prop p) (r : Value) (h : VRel ρ v r) : VRel ρ .ff r := by
  subst e
  obtain ⟨b, rfl, hb⟩ := h
  cases b
  · rfl
  · exact absurd (hb.1 rfl) hp

/-- what operands say -/
theorem evA_rel {H : Heap} {env : List (Nat × AV)} (hg : ∀ g, ∃ n, ρ (.glob g) = some (g, (0, n))) (henv : ∀ t, VRel ρ (look env t) (a.tmps.getD t undef) ∧ (look env t).lt H.next) (x : Operand) : VRel ρ (evA env x) (a.eval x) ∧ (evA env x).lt H.next := by
  cases x with
  | tmp t => exact henv t
  | const v =>
    refine ⟨cst_rel ρ v, ?_⟩
    simp only [evA]
    unfold cst
    split <;> first | trivial | (split <;> trivial)
  | global g =>
    obtain ⟨z, hz⟩ := hg g
    refine ⟨⟨g, (0, z), hz, by simp, ?_⟩, ?_⟩
    · simp [Act.eval]
    · intro n hn; simp [Blk.root] at hn
  | func f => exact ⟨⟨[], rfl, rfl⟩, trivial⟩

theorem Inv.ev (h : Inv S ρ0 H0 w0 σ ρ a w) (x : Operand) : VRel ρ (evA σ.env x) (a.eval x) ∧ (evA σ.env x).lt σ.H.next := evA_rel h.after.heap.glob h.env x

theorem Inv.refine (h : Inv S ρ0 H0 w0 σ ρ a w) {t : Nat} {v : AV} (hv : ∀ r, VRel ρ (look σ.env t) r → VRel ρ v r) (hl : v.lt σ.H.next) : Inv S ρ0 H0 w0 ⟨(t, v) :: σ.env, σ.H, σ.n, σ.lo⟩ ρ a w :=
  ⟨look_refine hv hl h.env, h.size, h.defers, h.lo, h.after⟩

theorem put_env {N N' : Nat} {ρ' : Loc} {env : List (Nat × AV)} {d : Option Nat} {n : Nat} {v : AV} {r : Value} {K : List (Nat × AV) → Prop} (h : putK d n v env K) (hn : a.tmps.size = n)
    (henv : ∀ t, VRel ρ (look env t) (a.tmps.getD t undef) ∧ (look env t).lt N) (ha : Agree N ρ ρ') (hN : N ≤ N') (hv : VRel ρ' v r) (hl : v.lt N') :
    ∃ env', K env' ∧ (∀ t, VRel ρ' (look env' t) ((a.put d r).tmps.getD t undef) ∧ (look env' t).lt N') ∧ (a.put d r).tmps.size = n ∧ (a.put d r).defers = a.defers := by
  have hold : ∀ t, VRel ρ' (look env t) (a.tmps.getD t undef) ∧ (look env t).lt N' := fun t => ⟨VRel.agree ha (henv t).2 (henv t).1, (henv t).2.mono hN⟩
  unfold putK at h
  split at h
  · exact ⟨_, h, hold, hn, rfl⟩
  · rename_i t
    split at h
    · rename_i hlt
      have hlt : t < n := by simpa [Nat.blt_eq] using hlt
      have h := forceV_out (K := fun v => K ((t, v) :: env)) h
      refine ⟨_, h, fun s => ?_, by simp [Act.put, hn], rfl⟩
      unfold look
      by_cases e : t = s
      · subst e
        rw [Nat.beq_refl]
        simp only [Act.put]
        rw [Array.getD_eq_getD_getElem?, Array.getElem?_setIfInBounds_self]
        rw [if_pos (by omega)]
        exact ⟨hv, hl⟩
      · rw [show Nat.beq t s = false from Bool.eq_false_iff.2 fun q => e (Nat.eq_of_beq_eq_true q)]
        simp only [Act.put]
        rw [Array.getD_eq_getD_getElem?, Array.getElem?_setIfInBounds_ne e, ← Array.getD_eq_getD_getElem?]
        exact hold s
    · exact h.elim

/-- the ops of a region that does not draw, one behind the other -/
theorem ops_sound (hS : SeatOk S) {ops : Array Oper} {Q : Exit → Act → World → Prop} (hq : ∀ a w σ ρ, kn σ → Inv S ρ0 H0 w0 σ ρ a w → Q .normal a w) :
    ∀ (l : List Oper) (k : Nat) (env : List (Nat × AV)) (H : Heap) (n lo : Nat) (ρ : Loc) (a : Act) (w : World), ops.toList.drop k = l → opsA S ops.toList n lo l env H kn → Inv S ρ0 H0 w0 ⟨env, H, n, lo⟩ ρ a w →
      wpOps S.P ops Q (List.range' k l.length) a w := by
  intro l
  induction l with
  | nil => intro k env H n lo ρ a w _ h hi; exact hq _ _ _ _ h hi
  | cons o r ih =>
    intro k env H n lo ρ a w hd h hi
    have ho : ops[k]? = some o := by
      have := congrArg (·[0]?) hd
      simpa using this
    have hr : ops.toList.drop (k + 1) = r := by
      rw [← List.drop_drop, hd]; rfl
    simp only [List.length_cons, List.range'_succ, wpOps, ho]
    -- what is wanted, and what is not
    have yes : ∀ env' : List (Nat × AV), Region.wanted o (yielded ops a.tmps) = true → Inv S ρ0 H0 w0 ⟨env', H, n, lo⟩ ρ a w →
        (stepA S o.op (evA env') H fun v H' => putK o.dst n v env' fun env => opsA S ops.toList n lo r env H' kn) →
        (if Region.wanted o (yielded ops a.tmps) then o.wp S.P a w (wpOps S.P ops Q (List.range' (k + 1) r.length)) Q ∨ (o.asks S.P a w ∧ LetsOut Q) else wpOps S.P ops Q (List.range' (k + 1) r.length) (a.put o.dst undef) w) := by
      intro env' hw hi h
      rw [if_pos hw]
      refine .inl (step_sound hS hi.after.heap (fun x => (hi.ev x).1) (fun x => (hi.ev x).2) h _ _ fun v r' H' ρ' w' hK hv hl ha => ?_)
      obtain ⟨env2, hK2, g1, g2, g3⟩ := put_env hK hi.size hi.env ha.agree ha.next hv hl
      exact ih (k + 1) env2 H' n lo ρ' _ w' hr hK2 ⟨g1, g2, g3.trans hi.defers, hi.lo, hi.after.trans ha⟩
    have no : ∀ env' : List (Nat × AV), Region.wanted o (yielded ops a.tmps) = false → Inv S ρ0 H0 w0 ⟨env', H, n, lo⟩ ρ a w →
        (putK o.dst n (.tup []) env' fun env => opsA S ops.toList n lo r env H kn) →
        (if Region.wanted o (yielded ops a.tmps) then o.wp S.P a w (wpOps S.P ops Q (List.range' (k + 1) r.length)) Q ∨ (o.asks S.P a w ∧ LetsOut Q) else wpOps S.P ops Q (List.range' (k + 1) r.length) (a.put o.dst undef) w) := by
      intro env' hw hi h
      rw [if_neg (by rw [hw]; simp)]
      obtain ⟨env2, hK2, g1, g2, g3⟩ := put_env (v := .tup []) (r := undef) h hi.size hi.env (.refl _ _) (Nat.le_refl _) ⟨[], rfl, rfl⟩ trivial
      exact ih (k + 1) env2 H n lo ρ _ w hr hK2 ⟨g1, g2, g3.trans hi.defers, hi.lo, hi.after⟩
    unfold opsA wantA at h
    split at h
    · rename_i hg
      exact yes env (by simp [Region.wanted, hg]) hi h
    · rename_i j want hg
      split at h
      · exact h.elim
      · rename_i oj hj
        have hj' : ops[j]? = some oj := by simpa using hj
        split at h
        · exact h.elim
        · rename_i d hdst
          have hd' := hi.env d
          have hyield : ∀ b, a.tmps.getD d undef = .bool b → yielded ops a.tmps j = some b := by
            intro b hb
            have : a.tmps[d]? = some (.bool b) := by
              rw [Array.getD_eq_getD_getElem?] at hb
              cases hq : a.tmps[d]? with
              | none => rw [hq] at hb; simp [undef] at hb
              | some v => rw [hq] at hb; simpa using hb
            simp [yielded, hj', hdst, this]
          have hwant : ∀ b, a.tmps.getD d undef = .bool b → Region.wanted o (yielded ops a.tmps) = (b == want) := by
            intro b hb
            simp [Region.wanted, hg, hyield b hb]
          simp only at hd'
          split at h
          · rename_i e
            rw [e] at hd'
            have hw := hwant _ hd'.1
            cases want with
            | true => exact yes env (by rw [hw]; rfl) hi h
            | false => exact no env (by rw [hw]; rfl) hi h
          · rename_i e
            rw [e] at hd'
            have hw := hwant _ hd'.1
            cases want with
            | true => exact no env (by rw [hw]; rfl) hi h
            | false => exact yes env (by rw [hw]; rfl) hi h
          · rename_i p e
            have hcase : p ∨ ¬p := Classical.em p
            rw [e] at hd'
            obtain ⟨⟨b, hb, hbp⟩, -⟩ := hd'
            have hw := hwant _ hb
            rcases hcase with hp | hp
            · have hb1 : b = true := hbp.2 hp
              have hi' := hi.refine (t := d) (v := .tt) (fun r q => prop_tt hp e r q) trivial
              subst hb1
              cases want with
              | true => exact yes _ (by rw [hw]; rfl) hi' (h.1 hp)
              | false => exact no _ (by rw [hw]; rfl) hi' (h.1 hp)
            · have hb1 : b = false := by
                cases b
                · rfl
                · exact absurd (hbp.1 rfl) hp
              have hi' := hi.refine (t := d) (v := .ff) (fun r q => prop_ff hp e r q) trivial
              subst hb1
              cases want with
              | true => exact no _ (by rw [hw]; rfl) hi' (h.2 hp)
              | false => exact yes _ (by rw [hw]; rfl) hi' (h.2 hp)
          · rename_i vs e
            split at h
            · rw [e] at hd'
              obtain ⟨⟨cs, hb, hc⟩, -⟩ := hd'
              have hc : cs = [] := hc
              subst hc
              refine no env ?_ hi h
              have hy : yielded ops a.tmps j = none := by
                rw [Array.getD_eq_getD_getElem?] at hb
                cases hq : a.tmps[d]? with
                | none => simp [yielded, hj', hdst, hq]
                | some v => rw [hq] at hb; simp at hb; simp [yielded, hj', hdst, hq, hb]
              simp [Region.wanted, hg, hy]
            · exact h.elim
          · exact h.elim

theorem QA.mono {e : Exit} (hn : ∀ σ, kn σ → kn' σ) (he : ∀ i σ, ke i σ → ke' i σ) (hr : ∀ σ, kr σ → kr' σ) (h : QA S ρ0 H0 w0 kn ke kr e a w) : QA S ρ0 H0 w0 kn' ke' kr' e a w := by
  cases e with
  | normal => exact let ⟨σ, ρ, h1, h2⟩ := h; ⟨σ, ρ, hn _ h1, h2⟩
  | exit i => exact let ⟨σ, ρ, h1, h2⟩ := h; ⟨σ, ρ, he _ _ h1, h2⟩
  | ret => exact let ⟨σ, ρ, h1, h2⟩ := h; ⟨σ, ρ, hr _ h1, h2⟩
  | _ => exact h

theorem wpA_sound (hS : SeatOk S) : ∀ {c : Code} {σ : St} {kn : St → Prop} {ke : Nat → St → Prop} {kr : St → Prop}, wpA S c σ kn ke kr →
    ∀ {ρ : Loc} {a : Act} {w : World}, Inv S ρ0 H0 w0 σ ρ a w → c.wp S.P (QA S ρ0 H0 w0 kn ke kr) a w
  | .skip, σ, kn, ke, kr, h, ρ, a, w, hi => wp_skip ⟨σ, ρ, h, hi⟩
  | .seq x y, σ, kn, ke, kr, h, ρ, a, w, hi => by
    refine wp_seq (wp_mono (wpA_sound hS (c := x) h hi) fun e a w hq => ?_)
    cases e with
    | normal => exact let ⟨σ, ρ, h1, h2⟩ := hq; wpA_sound hS (c := y) h1 h2
    | exit i => exact hq
    | ret => exact hq
    | _ => exact hq
  | .cond c x y, σ, kn, ke, kr, h, ρ, a, w, hi => by
    unfold wpA at h
    have hc := (hi.ev c).1
    split at h
    · rename_i e; rw [e] at hc; exact wp_cond_true hc (wpA_sound hS h hi)
    · rename_i e; rw [e] at hc; exact wp_cond_false hc (wpA_sound hS h hi)
    · rename_i p e
      have hcase : p ∨ ¬p := Classical.em p
      split at h
      · rename_i t
        rcases hcase with hp | hp
        · exact wp_cond_true (prop_tt hp e _ hc) (wpA_sound hS (h.1 hp) (hi.refine (fun r q => prop_tt hp e r q) trivial))
        · exact wp_cond_false (prop_ff hp e _ hc) (wpA_sound hS (h.2 hp) (hi.refine (fun r q => prop_ff hp e r q) trivial))
      · rcases hcase with hp | hp
        · exact wp_cond_true (prop_tt hp e _ hc) (wpA_sound hS (h.1 hp) hi)
        · exact wp_cond_false (prop_ff hp e _ hc) (wpA_sound hS (h.2 hp) hi)
    · exact h.elim
  | .block id x, σ, kn, ke, kr, h, ρ, a, w, hi => by
    refine wp_block (wp_mono (wpA_sound hS (c := x) h hi) fun e a w hq => ?_)
    cases e with
    | normal => exact hq
    | exit i =>
      obtain ⟨σ, ρ, h1, h2⟩ := hq
      simp only [Exit.inBlock]
      split at h1
      · rename_i q
        rw [if_pos (Nat.eq_of_beq_eq_true q)]
        exact ⟨σ, ρ, h1, h2⟩
      · rename_i q
        rw [if_neg fun e => by rw [e, Nat.beq_refl] at q; cases q]
        exact ⟨σ, ρ, h1, h2⟩
    | ret => exact hq
    | _ => exact hq
  | .exit id, σ, kn, ke, kr, h, ρ, a, w, hi => wp_exit ⟨σ, ρ, h, hi⟩
  | .ret, σ, kn, ke, kr, h, ρ, a, w, hi => wp_ret ⟨σ, ρ, h, hi⟩
  | .region id ops d, σ, kn, ke, kr, h, ρ, a, w, hi => by
    cases d with
    | false =>
      refine wp_region ?_
      have := ops_sound (Q := QA S ρ0 H0 w0 kn ke kr) hS (fun a w σ ρ h1 h2 => ⟨σ, ρ, h1, h2⟩) ops.toList 0 σ.env σ.H σ.n σ.lo ρ a w rfl h hi
      rwa [Array.length_toList, ← List.range_eq_range'] at this
    | true =>
      obtain ⟨env, H, n, lo⟩ := σ
      simp only [wpA] at h
      unfold Wp at h
      exact h _ _ _ _ _ _ hi
  | .loop x, σ, kn, ke, kr, h, ρ, a, w, hi => by
    unfold wpA Wp at h
    exact h _ _ _ _ _ _ hi
  | .rangeFunc _ _ _ _, _, _, _, _, h, _, _, _, _ => h.elim
  | .scope _, _, _, _, _, h, _, _, _, _ => h.elim
  | .label _, _, _, _, _, h, _, _, _, _ => h.elim
  | .goto _, _, _, _, _, h, _, _, _, _ => h.elim
  | .refuse _, _, _, _, _, h, _, _, _, _ => h.elim

theorem Wp.of_wpA (hS : SeatOk S) {c : Code} (h : wpA S c σ kn ke kr) : Wp S c σ kn ke kr := by
  unfold Wp
  exact fun _ _ _ _ _ _ hi => wpA_sound hS h hi
theorem Wp.mono {c : Code} (h : Wp S c σ kn ke kr) (hn : ∀ σ, kn σ → kn' σ) (he : ∀ i σ, ke i σ → ke' i σ) (hr : ∀ σ, kr σ → kr' σ) : Wp S c σ kn' ke' kr' := by
  unfold Wp at h ⊢
  exact fun _ _ _ _ _ _ hi => wp_mono (h _ _ _ _ _ _ hi) fun _ _ _ q => q.mono hn he hr
end
end Go.Vm
