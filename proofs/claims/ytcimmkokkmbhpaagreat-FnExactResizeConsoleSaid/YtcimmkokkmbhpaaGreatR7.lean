/- A grid of another size, as the reference makes it: its rows. -/
import Derived.Test.YtcimmkokkmbhpaaGreatR6
set_option linter.unusedSimpArgs false
set_option linter.unusedVariables false
set_option linter.constructorNameAsVariable false
namespace Go.Mu
open Go Go.Vm Go.RowKit Go.Proofs
attribute [local irreducible] wpA opsA stillA drawA drawS
set_option maxRecDepth 20000
set_option maxHeartbeats 4000000
theorem leafR7 {P : Prop} (h : P := by
  first
  | exact leaf
  | exact ⟨rfl, rfl⟩
  | exact Bool.false_ne_true
  | fail) : P := h
theorem minS (a b : Int) : CallA S 176 [.int .i64 a, .int .i64 b] ⟨[], 0⟩ (Ret1 (.int .i64 (min a b)) ⟨[], 0⟩) := by
  refine .ofC hS _ _ _ Tryz.func176 ?_
  conv => whnf
  repeat' (first|refine Seal.mk ?_|(refine wS ?_;(conv=>whnf);fail_if_success show False)|((first|refine opsA_step ?_|refine drawS_go ?_);conv=>whnf)|(intro _;first|omega|conv=>whnf)|(apply And.intro<;>intro _<;>first|omega|conv=>whnf)|refine ⟨Seal.mk ?_,Seal.mk ?_⟩|((first|refine ⟨leafR7,?_⟩|refine Or.inl ⟨leafR7,?_⟩|apply Or.inr|refine ⟨_,rfl,?_⟩|refine ⟨_,⟨rfl,rfl⟩,?_⟩|refine ⟨intE .u8,⟨rfl,fun _=>rfl⟩,?_⟩|refine ⟨_,⟨rfl,rfl,leafR7⟩,?_⟩);conv=>whnf)|with_reducible assumption|exact leafR7|fail)
  all_goals (refine ⟨(),⟨⟩,?_⟩;((try refine wF ?_);repeat' (first|exact ⟨⟩|refine ⟨leafR7,?_⟩|((conv=>whnf);first|exact ⟨⟩|refine ⟨leafR7,?_⟩))))
theorem l3RowOf (c b : List (Int × Int)) (gr : Int) (gw y : Nat) (hyb : y ≤ 6) (hy : (y + 1) * gw ≤ c.length) (hc : c.length ≤ 4096) : CallA S 252 [.ptr (.loc 0) 4 none 0, .int .i64 y] ⟨[⟨.loc 0, false, .raw [.int .i64 gr, .int .i64 gw, .sl (.loc 1) 2 none c.length, .sl (.loc 2) 2 none b.length]⟩, ⟨.loc 1, false, .arr pairE c⟩], 3⟩
    (Ret1 (.sl (.loc 3) 2 none gw) ⟨[⟨.loc 3, true, .arr pairE ((c.drop (y * gw)).take gw)⟩], 4⟩) := by
  have hyw : (y + 1) * gw = y * gw + gw := Nat.succ_mul y gw
  have hi : (y : Int) * gw = ((y * gw : Nat) : Int) := (Int.natCast_mul _ _).symm
  have hi1 : ((y : Int) + 1) * gw = ((y * gw : Nat) : Int) + gw := by rw [Int.add_mul, Int.one_mul, hi]
  have hrl : ((c.drop (y * gw)).take gw).length = gw := by simp; omega
  have e : [] ++ List.take (((y : Int) + 1) * gw - (y : Int) * gw).toNat (List.drop ((y : Int) * gw).toNat c) = (c.drop (y * gw)).take gw := by
    rw [List.nil_append, hi1, hi, show (((y * gw : Nat) : Int) + gw - ((y * gw : Nat) : Int)).toNat = gw by omega, Int.toNat_natCast]
  have el : ([] : List (Int × Int)).length + (List.take (((y : Int) + 1) * gw - (y : Int) * gw).toNat (List.drop ((y : Int) * gw).toNat c)).length = gw := by rw [← List.length_append, e, hrl]
  refine .ofC hS _ _ _ Tryz.func252 ?_
  conv => whnf
  repeat' (first|refine Seal.mk ?_|(refine wS ?_;(conv=>whnf);fail_if_success show False)|((first|refine opsA_step ?_|refine drawS_go ?_|refine wD (id:=1) (.quick 1 (.quick 2 (.quick 3 (.quick 5 (.quick 6 (.quick 7 (.quick 8 (.quick 11 (.quick 12 (.quick 13 (.quick 14 (.quick 15 (.stable 4 (.stable 9 (.quick 10 (.stable 16 (.quick 17 (.quick 18 (.all (.step 0 (.all (.step 19 (.quick 20 .done))))))))))))))))))))))) [0, 19] (by kernel_rfl) rfl ?_);conv=>whnf)|(intro _;first|omega|conv=>whnf)|(apply And.intro<;>intro _<;>first|omega|conv=>whnf)|refine ⟨Seal.mk ?_,Seal.mk ?_⟩|((first|refine ⟨leafR7,?_⟩|refine Or.inl ⟨leafR7,?_⟩|apply Or.inr|refine ⟨_,rfl,?_⟩|refine ⟨_,⟨rfl,rfl⟩,?_⟩|refine ⟨intE .u8,⟨rfl,fun _=>rfl⟩,?_⟩|refine ⟨_,⟨rfl,rfl,leafR7⟩,?_⟩);conv=>whnf)|with_reducible assumption|exact leafR7|fail)
  all_goals (refine ⟨(),⟨⟩,?_⟩;((try refine wF ?_);repeat' (first|exact ⟨⟩|refine ⟨leafR7,?_⟩|((conv=>whnf);first|exact ⟨⟩|refine ⟨leafR7,?_⟩))))
theorem l3Row (out row b : List (Int × Int)) (r : Int) (w y : Nat) (hyb : y ≤ 6) (hr : row.length = w) (hy : (y + 1) * w ≤ out.length) (hc : out.length ≤ 4096) : CallA S 250 [.ptr (.loc 0) 4 none 0, .int .i64 y, .sl (.loc 2) 2 none row.length] ⟨[⟨.loc 0, false, .raw [.int .i64 r, .int .i64 w, .sl (.loc 1) 2 none out.length, .nils]⟩, ⟨.loc 1, true, .arr pairE out⟩, ⟨.loc 2, false, .arr pairE row⟩], 3⟩
    (Ret1 (.tup []) ⟨[⟨.loc 1, true, .arr pairE (over out (y * w) row)⟩], 3⟩) := by
  have hyw : (y + 1) * w = y * w + w := Nat.succ_mul y w
  have hi : (y : Int) * w = ((y * w : Nat) : Int) := (Int.natCast_mul _ _).symm
  have hi1 : ((y : Int) + 1) * w = ((y * w : Nat) : Int) + w := by rw [Int.add_mul, Int.one_mul, hi]
  refine .ofC hS _ _ _ Tryz.func250 ?_
  conv => whnf
  repeat' (first|refine Seal.mk ?_|(refine wS ?_;(conv=>whnf);fail_if_success show False)|((first|refine opsA_step ?_|refine drawS_go ?_|refine wD (id:=0) (.quick 0 (.quick 1 (.quick 2 (.quick 4 (.quick 5 (.quick 6 (.quick 7 (.quick 10 (.quick 11 (.quick 12 (.quick 13 (.quick 14 (.quick 18 (.stable 3 (.stable 8 (.quick 9 (.stable 15 (.quick 16 (.quick 17 (.all (.step 19 .done))))))))))))))))))))) [19] (by kernel_rfl) rfl ?_);conv=>whnf)|(intro _;first|omega|conv=>whnf)|(apply And.intro<;>intro _<;>first|omega|conv=>whnf)|refine ⟨Seal.mk ?_,Seal.mk ?_⟩|((first|refine ⟨leafR7,?_⟩|refine Or.inl ⟨leafR7,?_⟩|apply Or.inr|refine ⟨_,rfl,?_⟩|refine ⟨_,⟨rfl,rfl⟩,?_⟩|refine ⟨intE .u8,⟨rfl,fun _=>rfl⟩,?_⟩|refine ⟨_,⟨rfl,rfl,leafR7⟩,?_⟩);conv=>whnf)|with_reducible assumption|exact leafR7|fail)
  have e : over out ((y : Int) * w).toNat (List.take (((y : Int) + 1) * w - (y : Int) * w).toNat (List.take (row.length : Int).toNat row)) = over out (y * w) row := by
    rw [hi1, hi, Int.toNat_natCast, Int.toNat_natCast, show (((y * w : Nat) : Int) + w - ((y * w : Nat) : Int)).toNat = row.length by omega, List.take_length, List.take_length]
  all_goals (refine ⟨(),⟨⟩,?_⟩;((try refine wF ?_);repeat' (first|exact ⟨⟩|refine ⟨leafR7,?_⟩|((conv=>whnf);first|exact ⟨⟩|refine ⟨leafR7,?_⟩))))
theorem over_row (c : List (Int × Int)) (gw w r y : Nat) (row : List (Int × Int)) (hrow : row.length = w) (hy : y < r) : over (rowsW c gw w y ++ List.replicate ((r - y) * w) (bl 0)) (y * w) row = rowsW c gw w y ++ row ++ List.replicate ((r - (y + 1)) * w) (bl 0) := by
  have hl := rowsW_len c gw w y
  have hm : (r - y) * w = (r - (y + 1)) * w + w := by rw [← Nat.succ_mul]; congr 1; omega
  unfold over
  rw [List.take_append_of_le_length (by omega), List.take_of_length_le (by omega), List.drop_append, List.drop_eq_nil_of_le (by omega), List.nil_append, List.drop_replicate, hl, hrow, show (r - y) * w - (y * w + w - y * w) = (r - (y + 1)) * w by omega, List.append_assoc]
theorem l3Resize (g : Grd) (gr gw mb r w : Nat) (hr : g.rows = gr) (hwd : g.width = gw) (hc : g.cells.length = gr * gw) (hb : g.back.length = mb * gw) (hmb : mb ≤ 5) (hgr : 1 ≤ gr ∧ gr ≤ 6) (hgw : 2 ≤ gw ∧ gw ≤ 12) (hrr : 1 ≤ r ∧ r ≤ 6) (hww : 2 ≤ w ∧ w ≤ 12) :
    CallA S 175 [.agg (grdC (.loc 0) (.loc 1) g), .int .i64 r, .int .i64 w] ⟨grdH false (.loc 0) (.loc 1) g [], 2⟩ (Ret1 (.agg (grdC (.loc 2) (.loc 3) (resG g gr gw mb r w))) ⟨grdH true (.loc 2) (.loc 3) (resG g gr gw mb r w) [], 4⟩) := by
  have hrw : (r : Int) * w = ((r * w : Nat) : Int) := (Int.natCast_mul _ _).symm
  have hrw2 : r * w ≤ 72 := by have := Nat.mul_le_mul hrr.2 hww.2; omega
  have hrn : ((r : Int) * w).toNat = r * w := by rw [hrw, Int.toNat_natCast]
  have hcl : g.cells.length ≤ 72 := by rw [hc]; have := Nat.mul_le_mul hgr.2 hgw.2; omega
  have hbl : g.back.length ≤ 72 := by rw [hb]; have := Nat.mul_le_mul (show mb ≤ 6 by omega) hgw.2; omega
  obtain ⟨g0, g1, cs, bs⟩ := g
  simp only at hr hwd hc hb hcl hbl
  subst hr
  subst hwd
  refine .ofC hS _ _ _ Tryz.func175 ?_
  conv => whnf
  repeat' (first|refine Seal.mk ?_|(refine wS ?_;(conv=>whnf);fail_if_success show False)|((first|refine opsA_step ?_|refine drawS_go ?_|apply wL (l3New r w hrw2));conv=>whnf)|(intro _;first|omega|conv=>whnf)|(apply And.intro<;>intro _<;>first|omega|conv=>whnf)|refine ⟨Seal.mk ?_,Seal.mk ?_⟩|((first|refine ⟨leafR7,?_⟩|refine Or.inl ⟨leafR7,?_⟩|apply Or.inr|refine ⟨_,rfl,?_⟩|refine ⟨_,⟨rfl,rfl⟩,?_⟩|refine ⟨intE .u8,⟨rfl,fun _=>rfl⟩,?_⟩|refine ⟨_,⟨rfl,rfl,leafR7⟩,?_⟩);conv=>whnf)|with_reducible assumption|exact leafR7|fail)
  rw [hrn]
  refine .loop hS (γ := Nat) (fun y => ⟨[(1, .int .i64 r), (2, .int .i64 w), (3, .ptr (.loc 2) 4 none 0), (6, .ptr (.loc 3) 4 none 0), (7, .ptr (.loc 5) 4 none 0), (8, .int .i64 y)],
    ⟨[⟨.loc 4, true, .arr pairE (rowsW cs gw w y ++ List.replicate ((r - y) * w) (bl 0))⟩, ⟨.loc 5, true, .raw [.int .i64 r, .int .i64 w, .sl (.loc 4) 2 none (rowsW cs gw w y ++ List.replicate ((r - y) * w) (bl 0)).length, .nils]⟩, ⟨.loc 2, false, .raw [.int .i64 gr, .int .i64 gw, .sl (.loc 0) 2 none cs.length, .sl (.loc 1) 2 none bs.length]⟩, ⟨.loc 3, true, .raw [.int .i64 0, .int .i64 0, .nils, .nils]⟩, ⟨.loc 0, false, .arr pairE cs⟩, ⟨.loc 1, false, .arr pairE bs⟩], 6⟩, 51, 2⟩) (fun y => y ≤ min r gr) (fun y => min r gr - y) 0 (by omega) ?_ ?_
  · have h0 : List.replicate (r * w) (bl 0) = rowsW cs gw w 0 ++ List.replicate ((r - 0) * w) (bl 0) := rfl
    have h1 : (rowsW cs gw w 0 ++ List.replicate ((r - 0) * w) (bl 0)).length = r * w := by rw [← h0, List.length_replicate]
    ((try dsimp only);((try refine wF ?_);repeat' (first|exact ⟨⟩|refine ⟨leafR7,?_⟩|((conv=>whnf);first|exact ⟨⟩|refine ⟨leafR7,?_⟩))))
  · intro y hy
    have hlen : (rowsW cs gw w y ++ List.replicate ((r - y) * w) (bl 0)).length = r * w := by
      rw [List.length_append, rowsW_len, List.length_replicate, ← Nat.add_mul, show y + (r - y) = r by omega]
    conv => whnf
    by_cases hgo : y < min r gr
    · have hyc : (y + 1) * gw ≤ cs.length := by rw [hc]; exact Nat.mul_le_mul_right _ (by omega)
      have hyo : (y + 1) * w ≤ (rowsW cs gw w y ++ List.replicate ((r - y) * w) (bl 0)).length := by rw [hlen]; exact Nat.mul_le_mul_right _ (by omega)
      have hrl : ((cs.drop (y * gw)).take gw).length = gw := by have hsm : (y + 1) * gw = y * gw + gw := Nat.succ_mul y gw; rw [List.length_take, List.length_drop]; omega
      have hfr : ((((cs.drop (y * gw)).take gw).drop 0).take gw) = (cs.drop (y * gw)).take gw := by rw [List.drop_zero, List.take_of_length_le (by omega)]
      have hfl := fitRow_len ((cs.drop (y * gw)).take gw) w
      have hfl2 : (fitRow ((((cs.drop (y * gw)).take gw).drop 0).take gw) w).length = w := fitRow_len _ _
      have hov := over_row cs gw w r y (fitRow ((cs.drop (y * gw)).take gw) w) hfl (by omega)
      have hnx : rowsW cs gw w (y + 1) = rowsW cs gw w y ++ fitRow ((cs.drop (y * gw)).take gw) w := rfl
      have hl2 : (rowsW cs gw w (y + 1) ++ List.replicate ((r - (y + 1)) * w) (bl 0)).length = r * w := by
        rw [List.length_append, rowsW_len, List.length_replicate, ← Nat.add_mul, show (y + 1) + (r - (y + 1)) = r by omega]
      rw [← hnx] at hov
      repeat' (first|refine Seal.mk ?_|(refine wS ?_;(conv=>whnf);fail_if_success show False)|((first|refine opsA_step ?_|refine drawS_go ?_|apply wL (minS _ _)|apply wL (l3RowOf cs bs gr gw y (by omega) hyc (by omega))|apply wL (l3Fit ((cs.drop (y * gw)).take gw) 0 gw w (by omega) (by omega) (by omega))|apply wL (l3Row (rowsW cs gw w y ++ List.replicate ((r - y) * w) (bl 0)) (fitRow ((((cs.drop (y * gw)).take gw).drop 0).take gw) w) bs r w y (by omega) (by rw [hfr]; exact hfl) hyo (by omega)));conv=>whnf)|(intro _;first|omega|conv=>whnf)|(apply And.intro<;>intro _<;>first|omega|conv=>whnf)|refine ⟨Seal.mk ?_,Seal.mk ?_⟩|((first|refine ⟨leafR7,?_⟩|refine Or.inl ⟨leafR7,?_⟩|apply Or.inr|refine ⟨_,rfl,?_⟩|refine ⟨_,⟨rfl,rfl⟩,?_⟩|refine ⟨intE .u8,⟨rfl,fun _=>rfl⟩,?_⟩|refine ⟨_,⟨rfl,rfl,leafR7⟩,?_⟩);conv=>whnf)|with_reducible assumption|exact leafR7|fail)
      rw [hfr, hov]
      refine ⟨y + 1, ⟨by omega, by omega⟩, ?_⟩
      ((try dsimp only);((try refine wF ?_);repeat' (first|exact ⟨⟩|refine ⟨leafR7,?_⟩|((conv=>whnf);first|exact ⟨⟩|refine ⟨leafR7,?_⟩))))
    · have hye : y = min r gr := by omega
      subst hye
      have hce : rowsW cs gw w (min r gr) ++ List.replicate ((r - min r gr) * w) (bl 0) = resC cs gr gw r w := rfl
      have hcn := resC_len cs gr gw r w
      repeat' (first|refine Seal.mk ?_|(refine wS ?_;(conv=>whnf);fail_if_success show False)|((first|refine opsA_step ?_|refine drawS_go ?_|apply wL (minS _ _));conv=>whnf)|(intro _;first|omega|conv=>whnf)|(apply And.intro<;>intro _<;>first|omega|conv=>whnf)|refine ⟨Seal.mk ?_,Seal.mk ?_⟩|((first|refine ⟨leafR7,?_⟩|refine Or.inl ⟨leafR7,?_⟩|apply Or.inr|refine ⟨_,rfl,?_⟩|refine ⟨_,⟨rfl,rfl⟩,?_⟩|refine ⟨intE .u8,⟨rfl,fun _=>rfl⟩,?_⟩|refine ⟨_,⟨rfl,rfl,leafR7⟩,?_⟩);conv=>whnf)|with_reducible assumption|exact leafR7|fail)
      refine .loop hS (γ := Nat × Nat) (fun g => ⟨[(1, .int .i64 r), (2, .int .i64 w), (3, .ptr (.loc 2) 4 none 0), (6, .ptr (.loc 3) 4 none 0), (7, .ptr (.loc 5) 4 none 0), (9, .int .i64 g.2)],
        ⟨[⟨.loc 4, true, .arr pairE (resC cs gr gw r w)⟩, ⟨.loc 6, true, .arr pairE (rowsW bs gw w g.1)⟩, ⟨.loc 5, true, .raw [.int .i64 r, .int .i64 w, .sl (.loc 4) 2 none (resC cs gr gw r w).length, .sl (.loc 6) 2 none (rowsW bs gw w g.1).length]⟩, ⟨.loc 2, false, .raw [.int .i64 gr, .int .i64 gw, .sl (.loc 0) 2 none cs.length, .sl (.loc 1) 2 none bs.length]⟩, ⟨.loc 3, true, .raw [.int .i64 0, .int .i64 0, .nils, .nils]⟩, ⟨.loc 0, false, .arr pairE cs⟩, ⟨.loc 1, false, .arr pairE bs⟩], 7⟩, 51, 2⟩) (fun g => g.2 = g.1 * gw ∧ g.1 ≤ mb) (fun g => mb - g.1) (0, 0) ⟨by simp, by omega⟩ ?_ ?_
      · have hz : (rowsW bs gw w 0).length = 0 := rfl
        rw [hce]
        ((try dsimp only);((try refine wF ?_);repeat' (first|exact ⟨⟩|refine ⟨leafR7,?_⟩|((conv=>whnf);first|exact ⟨⟩|refine ⟨leafR7,?_⟩))))
      · rintro ⟨k, f⟩ ⟨hf, hk⟩
        simp only at hf hk ⊢
        have hlt : k < mb → f + gw ≤ bs.length := fun q => by rw [hf, hb, ← Nat.succ_mul]; exact Nat.mul_le_mul_right _ q
        have hge : ¬ k < mb → f = bs.length := fun q => by rw [hf, hb, show k = mb by omega]
        have hrl := rowsW_len bs gw w k
        have hkw : k * w ≤ 72 := by have := Nat.mul_le_mul (show k ≤ 6 by omega) hww.2; omega
        conv => whnf
        by_cases hgo2 : k < mb
        · have hfo := hlt hgo2
          have hnx : rowsW bs gw w (k + 1) = rowsW bs gw w k ++ fitRow ((bs.drop f).take gw) w := by rw [rowsW, hf]
          have hfl := fitRow_len ((bs.drop f).take gw) w
          have hxx : (rowsW bs gw w (k + 1)).length = (rowsW bs gw w k).length + w := by rw [hnx, List.length_append, hfl]
          have htw : List.take (w : Int).toNat (fitRow ((bs.drop f).take gw) w) = fitRow ((bs.drop f).take gw) w := by rw [Int.toNat_natCast, List.take_of_length_le (by omega)]
          have hnt : rowsW bs gw w k ++ List.take (w : Int).toNat (fitRow ((bs.drop f).take gw) w) = rowsW bs gw w (k + 1) := by rw [htw, hnx]
          have htl : (List.take (w : Int).toNat (fitRow ((bs.drop f).take gw) w)).length = w := by rw [htw, hfl]
          repeat' (first|refine Seal.mk ?_|(refine wS ?_;(conv=>whnf);fail_if_success show False)|((first|refine opsA_step ?_|refine drawS_go ?_|refine wD (id:=9) (.quick 0 (.quick 2 (.quick 4 (.quick 5 (.quick 6 (.quick 10 (.all (.fork (.fork (.step 1 (.all (.fork (.step 3 (.all (.step 7 (.quick 8 (.quick 9 (.all (.step 11 (.all (.step 12 (.quick 13 (.all (.step 14 .done)))))))))))) (.step 7 (.quick 8 (.all (.step 3 (.quick 9 (.all (.step 11 (.all (.step 12 (.quick 13 (.all (.step 14 .done))))))))))))))) (.step 3 (.all (.fork (.step 1 (.all (.step 7 (.quick 8 (.quick 9 (.all (.step 11 (.all (.step 12 (.quick 13 (.all (.step 14 .done)))))))))))) (.step 7 (.quick 8 (.quick 9 (.all (.fork (.step 1 (.all (.step 11 (.all (.step 12 (.quick 13 (.all (.step 14 .done)))))))) (.step 11 (.all (.step 1 (.all (.step 12 (.quick 13 (.all (.step 14 .done))))))))))))))))) (.step 7 (.quick 8 (.all (.fork (.step 1 (.all (.step 3 (.quick 9 (.all (.step 11 (.all (.step 12 (.quick 13 (.all (.step 14 .done))))))))))) (.step 3 (.quick 9 (.all (.fork (.step 1 (.all (.step 11 (.all (.step 12 (.quick 13 (.all (.step 14 .done)))))))) (.step 11 (.all (.step 1 (.all (.step 12 (.quick 13 (.all (.step 14 .done)))))))))))))))))))))))) [1, 3, 7, 11, 12, 14] (by kernel_rfl) rfl ?_|apply wL (l3Fit bs f gw w hfo (by omega) (by omega)));conv=>whnf)|(intro _;first|omega|conv=>whnf)|(apply And.intro<;>intro _<;>first|omega|conv=>whnf)|refine ⟨Seal.mk ?_,Seal.mk ?_⟩|((first|refine ⟨leafR7,?_⟩|refine Or.inl ⟨leafR7,?_⟩|apply Or.inr|refine ⟨_,rfl,?_⟩|refine ⟨_,⟨rfl,rfl⟩,?_⟩|refine ⟨intE .u8,⟨rfl,fun _=>rfl⟩,?_⟩|refine ⟨_,⟨rfl,rfl,leafR7⟩,?_⟩);conv=>whnf)|with_reducible assumption|exact leafR7|fail)
          all_goals
            refine ⟨(k + 1, f + gw), ⟨⟨by simp only; rw [hf, Nat.succ_mul], by simp only; omega⟩, by simp only; omega⟩, ?_⟩
            ((try dsimp only);((try refine wF ?_);repeat' (first|exact ⟨⟩|refine ⟨leafR7,?_⟩|((conv=>whnf);first|exact ⟨⟩|refine ⟨leafR7,?_⟩))))
        · have hfe := hge hgo2
          have hkm : k = mb := by omega
          subst hkm
          repeat' (first|refine Seal.mk ?_|(refine wS ?_;(conv=>whnf);fail_if_success show False)|((first|refine opsA_step ?_|refine drawS_go ?_);conv=>whnf)|(intro _;first|omega|conv=>whnf)|(apply And.intro<;>intro _<;>first|omega|conv=>whnf)|refine ⟨Seal.mk ?_,Seal.mk ?_⟩|((first|refine ⟨leafR7,?_⟩|refine Or.inl ⟨leafR7,?_⟩|apply Or.inr|refine ⟨_,rfl,?_⟩|refine ⟨_,⟨rfl,rfl⟩,?_⟩|refine ⟨intE .u8,⟨rfl,fun _=>rfl⟩,?_⟩|refine ⟨_,⟨rfl,rfl,leafR7⟩,?_⟩);conv=>whnf)|with_reducible assumption|exact leafR7|fail)
          (refine ⟨(),⟨⟩,?_⟩;((try refine wF ?_);repeat' (first|exact ⟨⟩|refine ⟨leafR7,?_⟩|((conv=>whnf);first|exact ⟨⟩|refine ⟨leafR7,?_⟩))))
end Go.Mu
