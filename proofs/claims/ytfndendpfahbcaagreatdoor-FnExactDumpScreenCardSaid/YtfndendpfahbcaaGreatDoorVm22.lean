/- An abstract machine over the loaded code: regions that draw their order. -/
import Derived.Test.YtfndendpfahbcaaGreatDoorVm21
import Derived.StillTail
set_option linter.unusedSimpArgs false
set_option linter.unusedVariables false
namespace Go.Vm
open Go.RowKit

section
variable (S : Seat)
def stillOpA (o : Op) (ev : Operand → AV) (H : Heap) (K : AV → Prop) : Prop :=
  match kindOf S o with
  | .pure => pureA S o ev K
  | .read => readA S o ev H K
  | _ => False

/-- operations that leave memory alone -/
def stillA (all : List Oper) (n : Nat) : List Oper → List (Nat × AV) → Heap → (List (Nat × AV) → Prop) → Prop
  | [], env, _, K => K env
  | o :: r, env, H, K => wantA all o env
      (fun env => stillOpA S o.op (evA env) H fun v => putK o.dst n v env fun env => stillA all n r env H K)
      (fun env => putK o.dst n (.tup []) env fun env => stillA all n r env H K)
end

section
variable {S : Seat} {ρ0 : Loc} {H0 : Heap} {w0 : World} {σ : St} {ρ : Loc} {a : Act} {w : World} {kn kn' : St → Prop} {ke ke' : Nat → St → Prop} {kr kr' : St → Prop} {n lo : Nat} {H : Heap}

theorem want_sound {ops : Array Oper} {o : Oper} {env : List (Nat × AV)} {yes no : List (Nat × AV) → Prop} (h : wantA ops.toList o env yes no) (hi : Inv S ρ0 H0 w0 ⟨env, H, n, lo⟩ ρ a w) :
    ∃ env', Inv S ρ0 H0 w0 ⟨env', H, n, lo⟩ ρ a w ∧ ((Region.wanted o (yielded ops a.tmps) = true ∧ yes env') ∨ (Region.wanted o (yielded ops a.tmps) = false ∧ no env')) := by
  unfold wantA at h
  split at h
  · rename_i hg
    exact ⟨env, hi, .inl ⟨by simp [Region.wanted, hg], h⟩⟩
  · rename_i j want hg
    split at h
    · exact h.elim
    · rename_i oj hj
      have hj' : ops[j]? = some oj := by simpa using hj
      split at h
      · exact h.elim
      · rename_i d hdst
        have hd' := hi.env d
        have hyield : ∀ b, a.tmps.getD d undef = .bool b → yielded ops a.tmps j = some b := by
          intro b hb
          have : a.tmps[d]? = some (.bool b) := by
            rw [Array.getD_eq_getD_getElem?] at hb
            cases hq : a.tmps[d]? with
            | none => rw [hq] at hb; simp [undef] at hb
            | some v => rw [hq] at hb; simpa using hb
          simp [yielded, hj', hdst, this]
        have hwant : ∀ b, a.tmps.getD d undef = .bool b → Region.wanted o (yielded ops a.tmps) = (b == want) := by
          intro b hb
          simp [Region.wanted, hg, hyield b hb]
        simp only at hd'
        split at h
        · rename_i e
          rw [e] at hd'
          have hw := hwant _ hd'.1
          cases want with
          | true => exact ⟨env, hi, .inl ⟨by rw [hw]; rfl, h⟩⟩
          | false => exact ⟨env, hi, .inr ⟨by rw [hw]; rfl, h⟩⟩
        · rename_i e
          rw [e] at hd'
          have hw := hwant _ hd'.1
          cases want with
          | true => exact ⟨env, hi, .inr ⟨by rw [hw]; rfl, h⟩⟩
          | false => exact ⟨env, hi, .inl ⟨by rw [hw]; rfl, h⟩⟩
        · rename_i p e
          have hcase : p ∨ ¬p := Classical.em p
          rw [e] at hd'
          obtain ⟨⟨b, hb, hbp⟩, -⟩ := hd'
          have hw := hwant _ hb
          rcases hcase with hp | hp
          · have hb1 : b = true := hbp.2 hp
            have hi' := hi.refine (t := d) (v := .tt) (fun r q => prop_tt hp e r q) trivial
            subst hb1
            cases want with
            | true => exact ⟨_, hi', .inl ⟨by rw [hw]; rfl, h.1 hp⟩⟩
            | false => exact ⟨_, hi', .inr ⟨by rw [hw]; rfl, h.1 hp⟩⟩
          · have hb1 : b = false := by
              cases b
              · rfl
              · exact absurd (hbp.1 rfl) hp
            have hi' := hi.refine (t := d) (v := .ff) (fun r q => prop_ff hp e r q) trivial
            subst hb1
            cases want with
            | true => exact ⟨_, hi', .inr ⟨by rw [hw]; rfl, h.2 hp⟩⟩
            | false => exact ⟨_, hi', .inl ⟨by rw [hw]; rfl, h.2 hp⟩⟩
        · rename_i vs e
          split at h
          · rw [e] at hd'
            obtain ⟨⟨cs, hb, hc⟩, -⟩ := hd'
            have hc : cs = [] := hc
            subst hc
            refine ⟨env, hi, .inr ⟨?_, h⟩⟩
            have hy : yielded ops a.tmps j = none := by
              rw [Array.getD_eq_getD_getElem?] at hb
              cases hq : a.tmps[d]? with
              | none => simp [yielded, hj', hdst, hq]
              | some v => rw [hq] at hb; simp at hb; simp [yielded, hj', hdst, hq, hb]
            simp [Region.wanted, hg, hy]
          · exact h.elim
        · exact h.elim

theorem stillOp_sound (hS : SeatOk S) {o : Oper} {env : List (Nat × AV)} {K : AV → Prop} (h : stillOpA S o.op (evA env) H K) (hi : Inv S ρ0 H0 w0 ⟨env, H, n, lo⟩ ρ a w) :
    ∃ r v, K v ∧ VRel ρ v r ∧ v.lt H.next ∧ (execOp a.eval o).run S.P w = .ok (.value r) w := by
  unfold stillOpA at h
  split at h
  · obtain ⟨r, ⟨v, hK, hv, hl⟩, hr⟩ := pure_sound hS (fun x => (hi.ev x).1) (fun _ => rfl) (fun x => (hi.ev x).2) h
    exact ⟨r, v, hK, hv, hl, hr w⟩
  · obtain ⟨r, ⟨v, hK, hv, hl⟩, hr⟩ := read_sound hi.after.heap (fun x => (hi.ev x).1) h
    exact ⟨r, v, hK, hv, hl, hr⟩
  · exact h.elim

theorem still_sound (hS : SeatOk S) {ops : Array Oper} : ∀ (l : List Oper) {env : List (Nat × AV)} {K : List (Nat × AV) → Prop} {a : Act}, stillA S ops.toList n l env H K → Inv S ρ0 H0 w0 ⟨env, H, n, lo⟩ ρ a w →
    wpStill S.P ops w (fun a' => ∃ env', K env' ∧ Inv S ρ0 H0 w0 ⟨env', H, n, lo⟩ ρ a' w) l a
  | [], env, K, a, h, hi => ⟨env, h, hi⟩
  | o :: r, env, K, a, h, hi => by
    unfold stillA at h
    obtain ⟨env1, hi1, hh⟩ := want_sound h hi
    unfold wpStill
    rcases hh with ⟨hw, h1⟩ | ⟨hw, h1⟩
    · rw [if_pos hw]
      obtain ⟨r', v, hK, hv, hl, hr⟩ := stillOp_sound hS h1 hi1
      obtain ⟨env2, hK2, g1, g2, g3⟩ := put_env hK hi1.size hi1.env (.refl _ _) (Nat.le_refl _) hv hl
      unfold Oper.still
      rw [hr, Oper.stillUpon_value]
      exact still_sound hS r hK2 ⟨g1, g2, g3.trans hi1.defers, hi1.lo, hi1.after⟩
    · rw [if_neg (by rw [hw]; simp)]
      obtain ⟨env2, hK2, g1, g2, g3⟩ := put_env (v := .tup []) (r := undef) h1 hi1.size hi1.env (.refl _ _) (Nat.le_refl _) ⟨[], rfl, rfl⟩ trivial
      exact still_sound hS r hK2 ⟨g1, g2, g3.trans hi1.defers, hi1.lo, hi1.after⟩

theorem HRel.same (h : HRel S ρ H w) {w' : World} (hw : w'.heap = w.heap) : HRel S ρ H w' :=
  ⟨fun e he => (h.holds e he).turn (h.key e he).1 (.refl _ _) (Nat.le_refl _) fun _ _ _ _ _ => by rw [hw], h.key, h.sep, h.keys, h.glob, h.enc⟩
theorem Inv.drew (hi : Inv S ρ0 H0 w0 σ ρ a w) (k : Nat) : Inv S ρ0 H0 w0 σ ρ a { w with drawn := k } :=
  ⟨hi.env, hi.size, hi.defers, hi.lo, ⟨hi.after.next, hi.after.agree, hi.after.heap.same rfl, hi.after.size, hi.after.frame, hi.after.own, hi.after.os, hi.after.tape, hi.after.output⟩⟩

/-- a region that draws, and leaves memory alone -/
theorem Wp.draw_still (hS : SeatOk S) {id : Nat} {ops : Array Oper} {env : List (Nat × AV)} (hB : Region.lexB .any ops = true) (h : stillA S ops.toList n ops.toList env H fun env => kn ⟨env, H, n, lo⟩) :
    Wp S (.region id ops true) ⟨env, H, n, lo⟩ kn ke kr := by
  unfold Wp
  intro ρ0 H0 w0 ρ a w hi
  refine wp_region_still hS.mixed hB ?_
  have := still_sound hS ops.toList h (hi.drew (w.drawn + 1))
  have mono : ∀ {l : List Oper} {Q Q' : Act → Prop} {a : Act} {w : World}, (∀ a, Q a → Q' a) → wpStill S.P ops w Q l a → wpStill S.P ops w Q' l a := by
    intro l
    induction l with
    | nil => intro Q Q' a w hq h; exact hq _ h
    | cons o r ih =>
      intro Q Q' a w hq h
      unfold wpStill at h ⊢
      split at h
      · rename_i hw; rw [if_pos hw]; exact Oper.still_mono (fun a => ih hq) h
      · rename_i hw; rw [if_neg hw]; exact ih hq h
  exact mono (fun a' ⟨env', h1, h2⟩ => ⟨_, ρ, h1, h2⟩) this

/-- a region that draws, and whose last operations alone turn memory -/
theorem Wp.draw_tail (hS : SeatOk S) {id : Nat} {l : List Oper} {env : List (Nat × AV)} (k : Nat) (hB : Region.lexTailB .any l.toArray k = true) (h : stillA S l n (l.take k) env H fun env => opsA S l n lo (l.drop k) env H kn) :
    Wp S (.region id l.toArray true) ⟨env, H, n, lo⟩ kn ke kr := by
  unfold Wp
  intro ρ0 H0 w0 ρ a w hi
  refine wp_region_still_tail k hS.mixed hB ?_
  have := still_sound (ops := l.toArray) hS (l.take k) h (hi.drew (w.drawn + 1))
  have mono : ∀ {l' : List Oper} {Q Q' : Act → Prop} {a : Act} {w : World}, (∀ a, Q a → Q' a) → wpStill S.P l.toArray w Q l' a → wpStill S.P l.toArray w Q' l' a := by
    intro l
    induction l with
    | nil => intro Q Q' a w hq h; exact hq _ h
    | cons o r ih =>
      intro Q Q' a w hq h
      unfold wpStill at h ⊢
      split at h
      · rename_i hw; rw [if_pos hw]; exact Oper.still_mono (fun a => ih hq) h
      · rename_i hw; rw [if_neg hw]; exact ih hq h
  refine mono (fun a' ⟨env', h1, h2⟩ => ?_) this
  have := ops_sound (Q := QA S ρ0 H0 w0 kn ke kr) (ops := l.toArray) hS (fun a w σ ρ h1 h2 => ⟨σ, ρ, h1, h2⟩) (l.drop k) k env' H n lo ρ a' _ rfl h1 h2
  rwa [wpOps_eq_wpList (l.drop k) k (fun j => by simp [List.getElem?_drop])] at this
end
end Go.Vm
