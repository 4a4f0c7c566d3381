/- An abstract machine over the loaded code: regions that draw; what is read of blocks that nothing may turn may be read at once. -/
import Derived.Test.YtfndendpfahbcaaGreatDoorVm29
set_option linter.unusedSimpArgs false
set_option linter.unusedVariables false
namespace Go.Vm
open Go.RowKit

/-- blocks that are as they were -/
def Keeps (Fz : Nat → Prop) (w w' : World) : Prop := ∀ k, Fz k → w'.heap[k]? = w.heap[k]?
theorem Keeps.refl (Fz : Nat → Prop) (w : World) : Keeps Fz w w := fun _ _ => rfl
theorem Keeps.trans {Fz : Nat → Prop} {w w' w'' : World} (h : Keeps Fz w w') (h' : Keeps Fz w' w'') : Keeps Fz w w'' := fun k hk => (h' k hk).trans (h k hk)

section
variable {P : Program} {ops : Array Oper} {Q : Exit → Act → World → Prop} {md : Region.Mode} {ds : List Nat} {Fz : Nat → Prop}

/-- whatever order is picked from here on; behind an operation that is not of ds memory is as it was -/
def wpAnyS (Fz : Nat → Prop) (P : Program) (md : Region.Mode) (ops : Array Oper) (Q : Exit → Act → World → Prop) (ds : List Nat) : Nat → Array Bool → Act → World → Prop
  | 0, listed, a, w => Region.ready md ops listed = [] ∧ Q .normal a w
  | fuel + 1, listed, a, w =>
    (Region.ready md ops listed = [] → Q .normal a w) ∧
    ∀ i ∈ Region.ready md ops listed, wpOp P ops Q i (fun a' w' => (i ∉ ds → w' = w) ∧ Keeps Fz w w' ∧ wpAnyS Fz P md ops Q ds fuel (listed.setIfInBounds i true) a' w') a w

theorem wpAny_of_S : ∀ (fuel : Nat) (listed : Array Bool) (a : Act) (w : World), wpAnyS Fz P md ops Q ds fuel listed a w → wpAny P md ops Q fuel listed a w
  | 0, _, _, _, h => h
  | fuel + 1, _, _, _, h => ⟨h.1, fun i hi => wpOp_mono (fun a' w' h' => wpAny_of_S fuel _ a' w' h'.2.2) (h.2 i hi)⟩

/-- Take number i first: it yields v in this world, and what turns memory waits for it (or it yields v in whatever world). -/
theorem wpAnyS_first {i : Nat} {oi : Oper} {v : Value} {T : World → Prop} (hi : ops[i]? = some oi) (hsel : ∀ (j : Nat) (o : Oper) cs b, ops[j]? = some o → o.op ≠ .select cs b)
    (hQ : ∀ c a w, Q (.panic c) (a.put oi.dst v) w → Q (.panic c) a w) (n : Nat) :
    ∀ (fuel : Nat) (listed : Array Bool) (a : Act) (w : World),
      (∀ j oj, ops[j]? = some oj → j ≠ i → listed.getD j true = false → (∀ e ∈ oj.after, Region.binds md e = true → e.on ≠ i) → oi.apart ops oj = true) →
      ListedClosed md ops listed → ((∀ w w', Keeps Fz w w' → T w → T w') ∨ ∀ d ∈ ds, listed.getD d true = false → reachB md ops i n d = true) →
      i ∈ Region.ready md ops listed → YieldsIf P ops T oi v a → T w →
      wpAnyS Fz P md ops Q ds fuel (listed.setIfInBounds i true) (a.put oi.dst v) w → wpAnyS Fz P md ops Q ds (fuel + 1) listed a w := by
  intro fuel
  induction fuel with
  | zero =>
    intro listed a w _ _ _ hr hy hS H
    refine ⟨fun h => (by rw [h] at hr; cases hr), fun j hj => ?_⟩
    by_cases hji : j = i
    · subst hji; exact hy.wpOp hi hS ⟨fun _ => rfl, .refl _ _, H⟩
    · have := ready_mono hj hji
      rw [H.1] at this
      cases this
  | succ fuel ih =>
    intro listed a w hfree hc hd hr hy hS H
    refine ⟨fun h => (by rw [h] at hr; cases hr), fun j hj => ?_⟩
    by_cases hji : j = i
    · subst hji; exact hy.wpOp hi hS ⟨fun _ => rfl, .refl _ _, H⟩
    · have h1 := H.2 j (ready_mono hj hji)
      obtain ⟨hjun, oj, hoj, hall⟩ := mem_ready.1 hj
      have hiun := (mem_ready.1 hr).1
      have hnot : ∀ e ∈ oj.after, Region.binds md e = true → e.on ≠ i := fun e he hb heq => by
        have h1 := hall e he hb
        rw [heq] at h1
        rcases Nat.lt_or_ge i listed.size with h' | h'
        · simp [h'] at hiun h1; rw [hiun] at h1; cases h1
        · simp [Array.getElem?_eq_none h'] at h1
      have hjd : (∀ w w', Keeps Fz w w' → T w → T w') ∨ j ∉ ds := hd.imp id fun hd hm => reach_not_ready hc (hd j hm hjun) hiun hj
      have h2 := wpOp_putIf hoj (hfree j oj hoj hji hjun hnot) (fun cs b => hsel i oi cs b hi) (fun cs b => hsel j oj cs b hoj) hQ hy h1
      have hfree' : ∀ k ok, ops[k]? = some ok → k ≠ i → (listed.setIfInBounds j true).getD k true = false →
          (∀ e ∈ ok.after, Region.binds md e = true → e.on ≠ i) → oi.apart ops ok = true := fun k ok hk hki hun hno => by
        refine hfree k ok hk hki ?_ hno
        by_cases hjk : j = k
        · subst hjk; exact hjun
        · rw [getD_set_ne true hjk] at hun; exact hun
      have hd' : (∀ w w', Keeps Fz w w' → T w → T w') ∨ ∀ d ∈ ds, (listed.setIfInBounds j true).getD d true = false → reachB md ops i n d = true := hd.imp id fun hd d hm hun => by
        refine hd d hm ?_
        by_cases hjk : j = d
        · subst hjk; exact hjun
        · rw [getD_set_ne true hjk] at hun; exact hun
      refine wpOp_mono (fun a' w' h3 => ⟨h3.2.1, h3.2.2.1, ih (listed.setIfInBounds j true) a' w' hfree' (hc.set hj) hd' (ready_mono hr (Ne.symm hji)) h3.1 (hjd.elim (fun q => q w w' h3.2.2.1 hS) fun q => by rw [h3.2.1 q]; exact hS) ?_⟩) h2
      rw [Array.setIfInBounds_comm _ _ hji]
      exact h3.2.2.2
end

section
variable {S : Seat} {ρ ρS : Loc} {H HS : Heap} {w wS : World}

def roE : List Ent → List Ent
  | [] => []
  | e :: r => match e.rw with
    | true => roE r
    | false => e :: roE r
theorem roE_sub : ∀ (l : List Ent), (roE l).Sublist l
  | [] => .refl _
  | e :: r => by
    unfold roE
    cases e.rw
    · exact (roE_sub r).cons_cons _
    · exact (roE_sub r).cons _
theorem roE_rw {e : Ent} : ∀ {l : List Ent}, e ∈ roE l → e.rw = false
  | [], h => by simp [roE] at h
  | a :: r, h => by
    unfold roE at h
    cases ha : a.rw with
    | true => rw [ha] at h; exact roE_rw h
    | false =>
      rw [ha] at h
      rcases List.mem_cons.1 h with rfl | h
      · exact ha
      · exact roE_rw h

/-- what is read of a block that nothing may turn -/
def stableA (S : Seat) (o : Op) (ev : Operand → AV) (HS : Heap) (K : AV → Prop) : Prop :=
  match o with
  | .load T a => match ev a with
    | .ptr b m i j => b.isKey ∧ atA (roE HS.ents) b fun c => elemA b m i c fun l => partA S T l j K
    | _ => False
  | _ => False

def FzOf (ρS : Loc) (HS : Heap) (wS : World) (k : Nat) : Prop := k < wS.heap.size ∧ ¬ RwB ρS HS k

theorem inC_key : ∀ {c : Cont} {b0 b : Blk}, InC c b0 b → b.isKey → b = b0
  | .raw _, _, _, h, _ => h
  | .arr _ _, _, _, h, _ => h
  | .nest _ d _ _ f xs, b0, b, h, hb => by
    rcases h with h | ⟨i, _, j, _, h⟩
    · exact h
    · have := inC_key h hb
      rw [this] at hb
      exact hb.elim

theorem load_stable {N : Nat} {T : TypeId} {l : List AV} {rs : List Value} {j : Nat} {K : AV → Prop} {a : Addr} {W : World → Prop} (h : partA S T l j K) (hr : VRels ρ l rs) (hl : AV.lts N l)
    (hc : ∀ w, W w → ∀ j r, rs[j]? = some r → w.cell? ⟨a.block, a.off + j, none⟩ = some r) :
    ∃ r, Got ρ N K r ∧ ∀ w, W w → (loadVar T ⟨a.block, a.off + j, none⟩).run S.P w = .ok r w := by
  rcases part_rel h hr hl with ⟨ha', hp, hlen, hg⟩ | ⟨ha', r, hr', hg⟩
  · refine ⟨_, hg, fun w hw => ?_⟩
    simp only [loadVar, Sem.run_bind, isAgg_run ha', Result.andThen_ok, if_true, run_size hp]
    have hll : ((rs.drop j).take (szA S T)).length = szA S T := by simp; omega
    have := run_loadCells_list (P := S.P) w ⟨a.block, a.off + j, none⟩ ((rs.drop j).take (szA S T)) (fun i v hv => by
      rw [List.getElem?_take] at hv
      split at hv
      · rw [List.getElem?_drop] at hv
        have := hc w hw _ _ hv
        simp only [Addr.add]
        split
        · rename_i h0; subst h0; simpa using this
        · simpa [Nat.add_assoc] using this
      · simp at hv)
    rw [hll] at this
    simp [this]
  · refine ⟨_, hg, fun w hw => ?_⟩
    simp only [loadVar, Sem.run_bind, isAgg_run ha', Result.andThen_ok, Bool.false_eq_true, if_false, run_load, hc w hw _ _ hr']

theorem keys_ne {e e2 : Ent} : ∀ {l : List Ent}, l.Pairwise (fun e e' => e.b ≠ e'.b) → e ∈ l → e2 ∈ l → e ≠ e2 → e.b ≠ e2.b
  | [], _, h, _, _ => by cases h
  | a :: r, h, h1, h2, hne => by
    rw [List.pairwise_cons] at h
    rcases List.mem_cons.1 h1 with p1 | p1 <;> rcases List.mem_cons.1 h2 with p2 | p2
    · exact absurd (p1.trans p2.symm) hne
    · exact p1 ▸ h.1 _ p2
    · exact p2 ▸ fun q => h.1 _ p1 q.symm
    · exact keys_ne h.2 p1 p2 hne

theorem stable_sound {o : Oper} {ev : Operand → AV} {evr : Operand → Value} {K : AV → Prop} {N : Nat} (hH : HRel S ρS HS wS) (hag : Agree HS.next ρS ρ) (hN : HS.next ≤ N) (hev : ∀ x, VRel ρ (ev x) (evr x))
    (h : stableA S o.op ev HS K) : ∃ r, Got ρ N K r ∧ ∀ w', Keeps (FzOf ρS HS wS) wS w' → (execOp evr o).run S.P w' = .ok (.value r) w' := by
  obtain ⟨dst, op, ty, pos, after, g⟩ := o
  cases op with
  | load T a =>
    simp only [stableA] at h
    have hx := hev a
    split at h
    · rename_i b m i j e
      rw [e] at hx
      obtain ⟨k, z, h1, h2, er⟩ := hx
      obtain ⟨hkey, h⟩ := h
      obtain ⟨c, e', hc, he, hh, hin, _⟩ := at_sound (hH.sub (roE_sub _)) h
      have heb := inC_key hin hkey
      have hmem := (roE_sub _).subset he
      have hblt : b.lt HS.next := heb ▸ (hH.key e' hmem).1
      have hb : ρS b = some (k, z) := by rw [← hag b hblt]; exact h1
      have hll := hh.lies
      obtain ⟨l, rs, hl, hr, hlt, hcell⟩ := elem_sound hll hb h2 hc
      have hfz : FzOf ρS HS wS k := by
        refine ⟨?_, ?_⟩
        · simp only [Lies, hb] at hll
          obtain ⟨arr, T', fz, q, _⟩ := hll
          exact (Array.getElem?_eq_some_iff.1 q).1
        · rintro ⟨e2, he2, hrw2, b2, z2, hin2, hb2⟩
          refine hH.sep e' hmem e2 he2 (.inr hrw2) b b2 hin hin2 ?_ k z z2 hb hb2
          rintro rfl
          have := inC_key hin2 hkey
          have hne : e' ≠ e2 := fun q => by have := roE_rw he; rw [q, hrw2] at this; cases this
          exact keys_ne hH.keys hmem he2 hne (heb.symm.trans this)
      obtain ⟨r, hg, hrun⟩ := load_stable (a := ⟨k, z.1 + (i.getD 0).toNat * m, none⟩) (W := fun w' => Keeps (FzOf ρS HS wS) wS w') hl (hr.agree hag hlt) (AV.lts.mono hN hlt) (fun w' hw j r hj => by
        have h3 := hcell j r hj
        have h4 := hw k hfz
        simp only [World.cell?, h4] at h3 ⊢
        rwa [← Nat.add_assoc] at h3)
      exact ⟨r, hg, fun w' hw => by simp only [execOp, Instr.loadAt, Instr.sureAddr, er, Sem.run_bind, Sem.run_pure, Result.andThen_ok, ← Nat.add_assoc, hrun w' hw]⟩
    · exact h.elim
  | _ => exact h.elim
end

inductive PlanS where
  | done
  | stable (i : Nat) (r : PlanS)
  | quick (i : Nat) (r : PlanS)
  | read (i : Nat) (r : PlanS)
  | all (c : PlanS)
  | step (i : Nat) (r : PlanS)
  | fork (a b : PlanS)

def PlanS.heads : PlanS → List Nat
  | .step i _ => [i]
  | .fork a b => a.heads ++ b.heads
  | _ => []

def PlanS.top : PlanS → Bool
  | .step _ _ => false
  | .fork _ _ => false
  | _ => true

def planSB (ops : Array Oper) (ds : List Nat) : PlanS → Nat → Array Bool → Bool
  | .done, _, listed => (Region.ready .any ops listed).isEmpty
  | .quick i r, fuel, listed => match fuel with
    | 0 => false
    | f + 1 => Region.free .any ops listed i && (Region.ready .any ops listed).contains i && closedB .any ops listed && r.top && planSB ops ds r f (listed.setIfInBounds i true)
  | .stable i r, fuel, listed => match fuel with
    | 0 => false
    | f + 1 => Region.free .any ops listed i && (Region.ready .any ops listed).contains i && closedB .any ops listed && r.top && planSB ops ds r f (listed.setIfInBounds i true)
  | .read i r, fuel, listed => match fuel with
    | 0 => false
    | f + 1 => Region.free .any ops listed i && (Region.ready .any ops listed).contains i && closedB .any ops listed && lastB .any ops listed ds i && r.top && planSB ops ds r f (listed.setIfInBounds i true)
  | .all c, fuel, listed => match fuel with
    | 0 => false
    | f + 1 => !c.top && !(Region.ready .any ops listed).isEmpty && ((Region.ready .any ops listed).all fun i => c.heads.contains i) && planSB ops ds c f listed
  | .step i r, f, listed => ds.contains i && r.top && planSB ops ds r f (listed.setIfInBounds i true)
  | .fork a b, f, listed => !a.top && !b.top && planSB ops ds a f listed && planSB ops ds b f listed

section
variable (S : Seat)
def drawS (HS : Heap) (all : List Oper) (n lo : Nat) : PlanS → List (Nat × AV) → Heap → (St → Prop) → Prop
  | .done, env, H, K => K ⟨env, H, n, lo⟩
  | .quick i r, env, H, K => match all[i]? with
    | none => False
    | some o => wantA all o env
      (fun env => match kindOf S o.op with
        | .pure => pureA S o.op (evA env) fun v => putK o.dst n v env fun env => drawS HS all n lo r env H K
        | _ => False)
      (fun env => putK o.dst n (.tup []) env fun env => drawS HS all n lo r env H K)
  | .stable i r, env, H, K => match all[i]? with
    | none => False
    | some o => wantA all o env
      (fun env => stableA S o.op (evA env) HS fun v => putK o.dst n v env fun env => drawS HS all n lo r env H K)
      (fun env => putK o.dst n (.tup []) env fun env => drawS HS all n lo r env H K)
  | .read i r, env, H, K => match all[i]? with
    | none => False
    | some o => wantA all o env
      (fun env => stillOpA S o.op (evA env) H fun v => putK o.dst n v env fun env => drawS HS all n lo r env H K)
      (fun env => putK o.dst n (.tup []) env fun env => drawS HS all n lo r env H K)
  | .all c, env, H, K => drawS HS all n lo c env H K
  | .step i r, env, H, K => match all[i]? with
    | none => False
    | some o => wantA all o env
      (fun env => stepA S o.op (evA env) H fun v H' => putK o.dst n v env fun env => drawS HS all n lo r env H' K)
      (fun env => putK o.dst n (.tup []) env fun env => drawS HS all n lo r env H K)
  | .fork a b, env, H, K => drawS HS all n lo a env H K ∧ drawS HS all n lo b env H K
end

section
variable {S : Seat} {ρ0 : Loc} {H0 : Heap} {w0 : World} {σ : St} {ρ : Loc} {a : Act} {w : World} {kn kn' : St → Prop} {ke ke' : Nat → St → Prop} {kr kr' : St → Prop} {n lo : Nat} {H HS : Heap} {ρS : Loc} {wS : World}

theorem keeps_of {ρS : Loc} {HS : Heap} {wS : World} {ρ' : Loc} {H' : Heap} {w' : World} (ht : After S ρS HS wS ρ H w) (ha : After S ρ H w ρ' H' w') : Keeps (FzOf ρS HS wS) w w' := by
  rintro k ⟨h1, h2⟩
  refine ha.frame k (Nat.lt_of_lt_of_le h1 ht.size) fun q => ?_
  rcases ht.own k q with q | q
  · omega
  · exact h2 q
theorem keeps_start {ρS : Loc} {HS : Heap} {wS : World} (ht : After S ρS HS wS ρ H w) : Keeps (FzOf ρS HS wS) wS w := fun k hk => ht.frame k hk.1 hk.2

theorem contains_of_headsS {c : PlanS} {i : Nat} (h : c.heads.contains i = true) : i ∈ c.heads := by simpa using h

/-- the walk of the picked ones -/
def PicksS (Fz : Nat → Prop) (P : Program) (ops : Array Oper) (Q : Exit → Act → World → Prop) (ds : List Nat) (f : Nat) (listed : Array Bool) (a : Act) (w : World) (i : Nat) : Prop :=
  wpOp P ops Q i (fun a' w' => (i ∉ ds → w' = w) ∧ Keeps Fz w w' ∧ wpAnyS Fz P .any ops Q ds f (listed.setIfInBounds i true) a' w') a w

theorem drawS_sound (hS : SeatOk S) (hSt : HRel S ρS HS wS) {ops : Array Oper} {ds : List Nat} (hs : Region.noSelect ops = true) :
    ∀ (p : PlanS) (f : Nat) (listed : Array Bool) {env : List (Nat × AV)} {H : Heap} {ρ : Loc} {a : Act} {w : World}, planSB ops ds p f listed = true → drawS S HS ops.toList n lo p env H kn → Inv S ρ0 H0 w0 ⟨env, H, n, lo⟩ ρ a w → After S ρS HS wS ρ H w →
      (p.top = true → wpAnyS (FzOf ρS HS wS) S.P .any ops (QA S ρ0 H0 w0 kn ke kr) ds f listed a w) ∧ (p.top = false → ∀ i ∈ p.heads, PicksS (FzOf ρS HS wS) S.P ops (QA S ρ0 H0 w0 kn ke kr) ds f listed a w i)
  | .done, f, listed, env, H, ρ, a, w, hB, h, hi, ht => by
    refine ⟨fun _ => ?_, fun q => by simp [PlanS.top] at q⟩
    have hr : Region.ready .any ops listed = [] := by simpa [planSB] using hB
    have hq : QA S ρ0 H0 w0 kn ke kr .normal a w := ⟨_, ρ, h, hi⟩
    cases f with
    | zero => exact ⟨hr, hq⟩
    | succ f => exact ⟨fun _ => hq, by rw [hr]; simp⟩
  | .quick i r, f, listed, env, H, ρ, a, w, hB, h, hi, ht => by
    refine ⟨fun _ => ?_, fun q => by simp [PlanS.top] at q⟩
    cases f with
    | zero => simp [planSB] at hB
    | succ f =>
      simp only [planSB, Bool.and_eq_true] at hB
      obtain ⟨⟨⟨⟨h1, h2⟩, h3⟩, htop⟩, h4⟩ := hB
      simp only [drawS] at h
      split at h
      · exact h.elim
      · rename_i o ho
        have ho' : ops[i]? = some o := by simpa using ho
        obtain ⟨env1, hi1, hh⟩ := want_sound h hi
        have go : ∀ {v : AV} {x : Value}, YieldsIf S.P ops (fun _ => True) o x a → (putK o.dst n v env1 fun env => drawS S HS ops.toList n lo r env H kn) → VRel ρ v x → v.lt H.next →
            wpAnyS (FzOf ρS HS wS) S.P .any ops (QA S ρ0 H0 w0 kn ke kr) ds (f + 1) listed a w := by
          intro v x hy hK hv hl
          obtain ⟨env2, hK2, g1, g2, g3⟩ := put_env hK hi1.size hi1.env (.refl _ _) (Nat.le_refl _) hv hl
          exact wpAnyS_first (T := fun _ => True) ho' (Region.noSelect_spec hs) (fun c a w h => h.elim) 0 f listed a w (Region.free_spec ho' h1) (closedB_spec h3) (.inl fun _ _ _ _ => trivial) (by simpa using h2) hy trivial
            ((drawS_sound hS hSt hs r f (listed.setIfInBounds i true) h4 hK2 (ρ := ρ) (a := a.put o.dst x) (w := w) ⟨g1, g2, g3.trans hi1.defers, hi1.lo, hi1.after⟩ ht).1 htop)
        rcases hh with ⟨hw, h5⟩ | ⟨hw, h5⟩
        · split at h5
          · obtain ⟨x, ⟨v, hK, hv, hl⟩, hr⟩ := pure_sound hS (fun x => (hi1.ev x).1) (fun _ => rfl) (fun x => (hi1.ev x).2) h5
            exact go (.inl ⟨hw, fun w _ => hr w⟩) hK hv hl
          · exact h5.elim
        · exact go (v := .tup []) (x := undef) (.inr ⟨hw, rfl⟩) h5 ⟨[], rfl, rfl⟩ trivial
  | .stable i r, f, listed, env, H, ρ, a, w, hB, h, hi, ht => by
    refine ⟨fun _ => ?_, fun q => by simp [PlanS.top] at q⟩
    cases f with
    | zero => simp [planSB] at hB
    | succ f =>
      simp only [planSB, Bool.and_eq_true] at hB
      obtain ⟨⟨⟨⟨h1, h2⟩, h3⟩, htop⟩, h4⟩ := hB
      simp only [drawS] at h
      split at h
      · exact h.elim
      · rename_i o ho
        have ho' : ops[i]? = some o := by simpa using ho
        obtain ⟨env1, hi1, hh⟩ := want_sound h hi
        have go : ∀ {v : AV} {x : Value}, YieldsIf S.P ops (fun w' => Keeps (FzOf ρS HS wS) wS w') o x a → (putK o.dst n v env1 fun env => drawS S HS ops.toList n lo r env H kn) → VRel ρ v x → v.lt H.next →
            wpAnyS (FzOf ρS HS wS) S.P .any ops (QA S ρ0 H0 w0 kn ke kr) ds (f + 1) listed a w := by
          intro v x hy hK hv hl
          obtain ⟨env2, hK2, g1, g2, g3⟩ := put_env hK hi1.size hi1.env (.refl _ _) (Nat.le_refl _) hv hl
          exact wpAnyS_first (T := fun w' => Keeps (FzOf ρS HS wS) wS w') ho' (Region.noSelect_spec hs) (fun c a w h => h.elim) 0 f listed a w (Region.free_spec ho' h1) (closedB_spec h3) (.inl fun _ _ k t => t.trans k) (by simpa using h2) hy (keeps_start ht)
            ((drawS_sound hS hSt hs r f (listed.setIfInBounds i true) h4 hK2 (ρ := ρ) (a := a.put o.dst x) (w := w) ⟨g1, g2, g3.trans hi1.defers, hi1.lo, hi1.after⟩ ht).1 htop)
        rcases hh with ⟨hw, h5⟩ | ⟨hw, h5⟩
        · obtain ⟨x, ⟨v, hK, hv, hl⟩, hr⟩ := stable_sound hSt ht.agree ht.next (fun x => (hi1.ev x).1) h5
          exact go (.inl ⟨hw, hr⟩) hK hv hl
        · exact go (v := .tup []) (x := undef) (.inr ⟨hw, rfl⟩) h5 ⟨[], rfl, rfl⟩ trivial
  | .read i r, f, listed, env, H, ρ, a, w, hB, h, hi, ht => by
    refine ⟨fun _ => ?_, fun q => by simp [PlanS.top] at q⟩
    cases f with
    | zero => simp [planSB] at hB
    | succ f =>
      simp only [planSB, Bool.and_eq_true] at hB
      obtain ⟨⟨⟨⟨⟨h1, h2⟩, h3⟩, h6⟩, htop⟩, h4⟩ := hB
      simp only [drawS] at h
      split at h
      · exact h.elim
      · rename_i o ho
        have ho' : ops[i]? = some o := by simpa using ho
        obtain ⟨env1, hi1, hh⟩ := want_sound h hi
        have hlast : ∀ d ∈ ds, listed.getD d true = false → reachB .any ops i ops.size d = true := fun d hm hun => by
          have := List.all_eq_true.1 h6 d hm
          rw [hun] at this; simpa using this
        have go : ∀ {v : AV} {x : Value}, YieldsIf S.P ops (fun w' => w' = w) o x a → (putK o.dst n v env1 fun env => drawS S HS ops.toList n lo r env H kn) → VRel ρ v x → v.lt H.next →
            wpAnyS (FzOf ρS HS wS) S.P .any ops (QA S ρ0 H0 w0 kn ke kr) ds (f + 1) listed a w := by
          intro v x hy hK hv hl
          obtain ⟨env2, hK2, g1, g2, g3⟩ := put_env hK hi1.size hi1.env (.refl _ _) (Nat.le_refl _) hv hl
          exact wpAnyS_first (T := fun w' => w' = w) ho' (Region.noSelect_spec hs) (fun c a w h => h.elim) ops.size f listed a w (Region.free_spec ho' h1) (closedB_spec h3) (.inr hlast) (by simpa using h2) hy rfl
            ((drawS_sound hS hSt hs r f (listed.setIfInBounds i true) h4 hK2 (ρ := ρ) (a := a.put o.dst x) (w := w) ⟨g1, g2, g3.trans hi1.defers, hi1.lo, hi1.after⟩ ht).1 htop)
        rcases hh with ⟨hw, h5⟩ | ⟨hw, h5⟩
        · obtain ⟨x, v, hK, hv, hl, hr⟩ := stillOp_sound hS h5 hi1
          exact go (.inl ⟨hw, fun w' e => by rw [e]; exact hr⟩) hK hv hl
        · exact go (v := .tup []) (x := undef) (.inr ⟨hw, rfl⟩) h5 ⟨[], rfl, rfl⟩ trivial
  | .all c, f, listed, env, H, ρ, a, w, hB, h, hi, ht => by
    refine ⟨fun _ => ?_, fun q => by simp [PlanS.top] at q⟩
    cases f with
    | zero => simp [planSB] at hB
    | succ f =>
      simp only [planSB, Bool.and_eq_true] at hB
      obtain ⟨⟨⟨h1, h2⟩, h3⟩, h4⟩ := hB
      have hh := (drawS_sound hS hSt hs c f listed h4 h hi ht).2 (by simpa using h1)
      refine ⟨fun hr => ?_, fun i hm => ?_⟩
      · rw [hr] at h2; simp at h2
      · exact hh i (by have := List.all_eq_true.1 h3 i hm; simpa using this)
  | .step i r, f, listed, env, H, ρ, a, w, hB, h, hi, ht => by
    refine ⟨fun q => by simp [PlanS.top] at q, fun _ j hj => ?_⟩
    have hj : j = i := by simpa [PlanS.heads] using hj
    subst hj
    simp only [planSB, Bool.and_eq_true] at hB
    obtain ⟨⟨h1, htop⟩, h2⟩ := hB
    have h1 : j ∈ ds := by simpa using h1
    simp only [drawS] at h
    split at h
    · exact h.elim
    · rename_i o ho
      have ho' : ops[j]? = some o := by simpa using ho
      obtain ⟨env1, hi1, hh⟩ := want_sound h hi
      unfold PicksS wpOp
      simp only [ho']
      rcases hh with ⟨hw, h5⟩ | ⟨hw, h5⟩
      · rw [if_pos hw]
        refine .inl (step_sound hS hi1.after.heap (fun x => (hi1.ev x).1) (fun x => (hi1.ev x).2) h5 _ _ fun v r' H' ρ' w' hK hv hl ha => ⟨fun q => absurd h1 q, keeps_of ht ha, ?_⟩)
        obtain ⟨env2, hK2, g1, g2, g3⟩ := put_env hK hi1.size hi1.env ha.agree ha.next hv hl
        exact (drawS_sound hS hSt hs r f (listed.setIfInBounds j true) h2 hK2 ⟨g1, g2, g3.trans hi1.defers, hi1.lo, hi1.after.trans ha⟩ (ht.trans ha)).1 htop
      · rw [if_neg (by rw [hw]; simp)]
        obtain ⟨env2, hK2, g1, g2, g3⟩ := put_env (v := .tup []) (r := undef) h5 hi1.size hi1.env (.refl _ _) (Nat.le_refl _) ⟨[], rfl, rfl⟩ trivial
        exact ⟨fun q => absurd h1 q, .refl _ _, (drawS_sound hS hSt hs r f (listed.setIfInBounds j true) h2 hK2 ⟨g1, g2, g3.trans hi1.defers, hi1.lo, hi1.after⟩ ht).1 htop⟩
  | .fork x y, f, listed, env, H, ρ, a, w, hB, h, hi, ht => by
    refine ⟨fun q => by simp [PlanS.top] at q, fun _ j hj => ?_⟩
    simp only [planSB, Bool.and_eq_true] at hB
    obtain ⟨⟨⟨h1, h2⟩, h3⟩, h4⟩ := hB
    simp only [drawS] at h
    rcases List.mem_append.1 hj with q | q
    · exact (drawS_sound hS hSt hs x f listed h3 h.1 hi ht).2 (by simpa using h1) j q
    · exact (drawS_sound hS hSt hs y f listed h4 h.2 hi ht).2 (by simpa using h2) j q

end

section
variable {S : Seat} {kn : St → Prop} {ke : Nat → St → Prop} {kr : St → Prop} {env : List (Nat × AV)} {H HS : Heap} {n lo : Nat} {all : List Oper} {K : St → Prop}

/-- a region that draws: any plan that the Bool takes -/
theorem Wp.drawS (hS : SeatOk S) {id : Nat} {ops : Array Oper} {l : List Oper} (p : PlanS) (ds : List Nat) (hB : (Region.noSelect ops && p.top && planSB ops ds p ops.size (Array.replicate ops.size false)) = true)
    (hl : ops.toList = l) (h : Seal (drawS S H l n lo p env H kn)) : Wp S (.region id ops true) ⟨env, H, n, lo⟩ kn ke kr := by
  subst hl
  simp only [Bool.and_eq_true] at hB
  obtain ⟨⟨h1, h2⟩, h3⟩ := hB
  unfold Wp
  intro ρ0 H0 w0 ρ a w hi
  refine wp_region_any hS.mixed (wpAny_of_S (Fz := FzOf ρ H w) (ds := ds) _ _ _ _ ?_)
  have hd := hi.drew (w.drawn + 1)
  exact (drawS_sound hS hd.after.heap h1 p ops.size _ h3 h.out hd (.refl hd.after.heap)).1 h2

theorem drawS_done (h : K ⟨env, H, n, lo⟩) : drawS S HS all n lo .done env H K := h
theorem drawS_quick {i : Nat} {o : Oper} {r : PlanS} (ho : all[i]? = some o) (h : wantA all o env
      (fun env => match kindOf S o.op with
        | .pure => pureA S o.op (evA env) fun v => putK o.dst n v env fun env => Seal (drawS S HS all n lo r env H K)
        | _ => False)
      (fun env => putK o.dst n (.tup []) env fun env => Seal (drawS S HS all n lo r env H K))) : drawS S HS all n lo (.quick i r) env H K := by
  simp only [seal_eq] at h
  simp only [drawS, ho]
  exact h
theorem drawS_read {i : Nat} {o : Oper} {r : PlanS} (ho : all[i]? = some o) (h : wantA all o env
      (fun env => stillOpA S o.op (evA env) H fun v => putK o.dst n v env fun env => Seal (drawS S HS all n lo r env H K))
      (fun env => putK o.dst n (.tup []) env fun env => Seal (drawS S HS all n lo r env H K))) : drawS S HS all n lo (.read i r) env H K := by
  simp only [seal_eq] at h
  simp only [drawS, ho]
  exact h
theorem drawS_stable {i : Nat} {o : Oper} {r : PlanS} (ho : all[i]? = some o) (h : wantA all o env
      (fun env => stableA S o.op (evA env) HS fun v => putK o.dst n v env fun env => Seal (drawS S HS all n lo r env H K))
      (fun env => putK o.dst n (.tup []) env fun env => Seal (drawS S HS all n lo r env H K))) : drawS S HS all n lo (.stable i r) env H K := by
  simp only [seal_eq] at h
  simp only [drawS, ho]
  exact h
theorem drawS_all {c : PlanS} (h : Seal (drawS S HS all n lo c env H K)) : drawS S HS all n lo (.all c) env H K := h.out
theorem drawS_step {i : Nat} {o : Oper} {r : PlanS} (ho : all[i]? = some o) (h : wantA all o env
      (fun env => stepA S o.op (evA env) H fun v H' => putK o.dst n v env fun env => Seal (drawS S HS all n lo r env H' K))
      (fun env => putK o.dst n (.tup []) env fun env => Seal (drawS S HS all n lo r env H K))) : drawS S HS all n lo (.step i r) env H K := by
  simp only [seal_eq] at h
  simp only [drawS, ho]
  exact h
theorem drawS_fork2 {a b : PlanS} (ha : Seal (drawS S HS all n lo a env H K)) (hb : Seal (drawS S HS all n lo b env H K)) : drawS S HS all n lo (.fork a b) env H K := by
  simp only [seal_eq] at ha hb; exact ⟨ha, hb⟩
theorem drawS_fork {a b : PlanS} (h : Seal (drawS S HS all n lo a env H K) ∧ Seal (drawS S HS all n lo b env H K)) : drawS S HS all n lo (.fork a b) env H K := by
  simp only [seal_eq] at h; exact h
end
end Go.Vm
