/- The fixed calls. -/
import Derived.Test.YtbgpgbfiadhddaaDoorPtSome
import Derived.Test.YtbgpgbfiadhddaaDoorPtPts
import Derived.Test.YtbgpgbfiadhddaaDoorPtPls
namespace Go.Proofs.YtbgpgbfiadhddaaDoor
open Go Go.RowKit
theorem psame_b {P Q : Pt} {x y : Value} (hx : PtV P x) (hy : PtV Q y) {b : Bool} (hb : samePt P Q = b) (w : World) : Calls Tryd.prog 8 #[x, y] w (Gives w (isB b)) := hb ▸ psame_v hx hy w
theorem small_b {P : Pt} {x : Value} (hx : PtV P x) {b : Bool} (hb : samePt (pmul 8 P) pzero = b) (w : World) : Calls Tryd.prog 31 #[x] w (Gives w (isB b)) := hb ▸ small_v hx w
theorem encS_B : encS pB = toS BY := by unfold encS; rw [encN_B]
theorem encS_0 : encS pzero = toS 1 := by unfold encS; rw [encN_0]
theorem fx_len (P : Pt) : decide (((encS P).size : Int) = 32) = true := decide_eq_true (by rw [enc_size']; rfl)
theorem fx_lt (P : Pt) (i : Nat) (h : i < 32) : i < (encS P).size := by rw [enc_size']; exact h
theorem fx30 : (bl (encS pB)).getD 0 0 = 88 := by rw [encS_B]; decide +kernel
theorem fx35 : (bl (encS pB)).getD 31 0 = 102 := by rw [encS_B]; decide +kernel
theorem fx102 : (bl (encS pzero)).getD 0 0 = 1 := by rw [encS_0]; decide +kernel
theorem fx108 : (bl (encS pzero)).getD 31 0 = 0 := by rw [encS_0]; decide +kernel
theorem fx40 : decide (decC (encS pB) = 0) = true := decide_eq_true (decC_yes (dec_enc pB).1)
theorem fx45 : samePt (decP (encS pB)) pB = true := by rw [(dec_enc pB).2]; exact samePt_self _
theorem fx49 : decide (decC ⟨#[120]⟩ = 9) = true := decide_eq_true (decC_no fun h => absurd h.1 (by decide))
theorem fx54 : samePt pB pzero = false := samePt_no pB_ne
theorem fx61 : samePt (padd pB pB) (pmul (lowN ⟨#[2]⟩) pB) = true := by
  rw [show lowN ⟨#[2]⟩ = 2 by decide +kernel, pmul_2]
  exact samePt_self _
theorem fx66 : samePt (padd pB pB) pB = false := samePt_no (add_self_ne pB_ne)
theorem fx74 : samePt (padd pB pzero) pB = true := by rw [show padd pB pzero = pB from ed.add_zero pB]; exact samePt_self _
theorem fx82 : samePt (padd pB (pneg pB)) pzero = true := by rw [show padd pB (pneg pB) = pzero from ed.add_neg pB]; exact samePt_self _
theorem fx86 : samePt (pmul 8 pzero) pzero = true := by rw [show pmul 8 pzero = pzero from ed.mul_zero 8]; exact samePt_self _
theorem fx90 : samePt (pmul 8 pB) pzero = false := samePt_no pB_8
theorem fx117 : ((toS (mulF (DN) (121666))).toList == (toS (negF (121665))).toList) = true := (toS_beq (mulF_lt ..) (negF_lt _)).trans (by decide +kernel)
set_option maxRecDepth 100000 in
set_option maxHeartbeats 4000000 in
theorem fixed_v (w : World) : Calls Tryd.prog 12 #[] w (Gives w (isB true)) := by
  go_enter Tryd.func12, Tryd.ntmps12
  go_upto_region 0 with fail
  refine wp_region_list ?_
  refine wpList_run (v := .bool false) rfl (exec_assignV rfl rfl) ?_
  refine wpList_nil ?_
  simp only [Act.put, List.setIfInBounds_toArray, List.set_cons_zero]
  have HT := Lib.hid (Touch.refl [] w)
  go_upto_region 1 with fail
  refine wp_region_list (wpList_flowP 2 (lookW [(9, pu (PtV (pB))), (10, pu (PQv (0) (1) (1) (mulF (0) (1))))]) [] [9, 10] [9, 10] (by kernel_rfl) (by kernel_rfl) (by kernel_rfl) trivial ?_ ?_)
  · refine FStepsW.cons (FStepW.plain rfl fun a w hS hE => OpTo.call #[] rfl Tryd.func5 (by kernel_rfl) (by kernel_rfl) (args0 ..) ((base_v w).mono fun _ _ h => Gives.toW 9 rfl (fun _ _ h => h) h)) ?_
    refine FStepsW.cons (FStepW.plain rfl fun a w hS hE => OpTo.call #[] rfl Tryd.func20 (by kernel_rfl) (by kernel_rfl) (args0 ..) ((zero_q w).mono fun _ _ h => Gives.toW 10 rfl (fun _ _ h => h) h)) ?_
    exact FStepsW.nil
  intro f w1 hS hF
  obtain ⟨h9, h10, -⟩ := hF
  obtain ⟨b9, l9, q9, e9⟩ := h9
  have P9 := Lib.hid q9
  clear q9
  obtain ⟨l10, q10, e10⟩ := h10
  have Q10 := Lib.hid q10
  clear q10
  replace HT := Lib.hid (HT.out.trans hS)
  clear hS
  simp only [setAll, List.setIfInBounds_toArray, List.set_cons_zero, List.set_cons_succ, e9, e10]
  show wpList _ _ _ [_, _, _, _] _ _
  refine wpList_run rfl (exec_alloc_pt rfl) ?_
  refine wpList_run rfl (exec_alloc_pt rfl) ?_
  simp only [Act.put, List.setIfInBounds_toArray, List.set_cons_zero, List.set_cons_succ]
  obtain ⟨w2, g1, g2, hW, eg1, eg2, b1, b2, ht, hb1, hb2, ne1_2⟩ := start2 w1 29 (ptA false zl) 29 (ptA false zl)
  rw [← hW]
  rw [← eg2]
  rw [← eg1]
  have NE1_2 := Lib.hid ne1_2
  have B1 := Lib.hid b1
  have HB1 := Lib.hid (Nat.le_trans HT.out.size hb1)
  have B2 := Lib.hid b2
  have HB2 := Lib.hid (Nat.le_trans HT.out.size hb2)
  replace HT := Lib.hid (HT.out.trans ht)
  clear hW eg1 eg2 b1 b2 ht hb1 hb2 ne1_2
  refine wpList_store_row rfl 29 (.tmp 1) (.tmp 9) rfl g1 (ptA b9 l9) rfl rfl 29 (ptA false zl) B1.out (by rw [ptA_size P9.out.len]; exact infoP) ((ptA_size zl_len).trans (ptA_size P9.out.len).symm) (ptA_one b9 l9) ?_
  have P10 : Hid (PtL pzero true l10) := Lib.hid (.inl ⟨rfl, _, _, _, _, rep_zero, Q10.out⟩)
  refine wpList_store_row rfl 29 (.tmp 2) (.tmp 10) rfl g2 (ptA true l10) rfl rfl 29 (ptA false zl) (B2.out.frow (Ne.symm NE1_2.out) (ptA b9 l9)) (by rw [ptA_size Q10.out.len]; exact infoP) ((ptA_size zl_len).trans (ptA_size Q10.out.len).symm) (ptA_one true l10) ?_
  refine wpList_nil ?_
  simp only [Act.put]
  have B1' := ((B1.out.setRow (ptA b9 l9)).frow NE1_2.out (ptA true l10))
  have B2' := ((B2.out.frow (Ne.symm NE1_2.out) (ptA b9 l9)).setRow (ptA true l10))
  have HT' := ((HT.out.setRowE (.inr HB1.out) (ptA b9 l9)).setRowE (.inr HB2.out) (ptA true l10))
  obtain ⟨w3, hw3⟩ : ∃ w3, w3 = ((w2.setRow g1 (ptA b9 l9)).setRow g2 (ptA true l10)) := ⟨_, rfl⟩
  rw [← hw3] at HT' B1' B2'
  rw [← hw3]
  clear hw3 HT B1 B2
  have B1 := Lib.hid B1'
  clear B1'
  have B2 := Lib.hid B2'
  clear B2'
  have HT := Lib.hid HT'
  clear HT'
  clear e9 e10
  go_upto_region 2 with fail
  refine wp_region_list (wpList_flowP 2 (lookW [(1, pu (isP (g1))), (11, pu (PtV (pB))), (12, pu (isS (encS (pB))))]) [1] [11, 12] [12] (by kernel_rfl) (by kernel_rfl) (by kernel_rfl) ⟨rfl, trivial⟩ ?_ ?_)
  · refine FStepsW.cons (FStepW.plain rfl fun a w hS hE => OpTo.rdP 11 (.tmp 1) rfl rfl (g1) (hE 1 (by kernel_rfl)) (B1.out.touch hS notin_nil) P9.out (fun _ h => h)) ?_
    refine FStepsW.cons (FStepW.plain rfl fun a w hS hE => OpTo.call #[a.tmps.getD 11 undef] rfl Tryd.func30 (by kernel_rfl) (by kernel_rfl) (args1 ..) ((penc_v (hE 11 (by kernel_rfl)) w).mono fun _ _ h => Gives.toW 12 rfl (fun _ _ h => h) h)) ?_
    exact FStepsW.nil
  intro f w4 hS hF
  obtain ⟨h12, -⟩ := hF
  have e12 : f 12 = .string (encS (pB)) := h12
  clear h12
  replace B1 := Lib.hid (B1.out.touch hS notin_nil)
  replace B2 := Lib.hid (B2.out.touch hS notin_nil)
  replace HT := Lib.hid (HT.out.trans hS)
  clear hS
  simp only [setAll, List.setIfInBounds_toArray, List.set_cons_zero, List.set_cons_succ, e12]
  show wpList _ _ _ [_] _ _
  refine wpList_run (v := .string (encS (pB))) rfl (exec_assignV rfl rfl) ?_
  refine wpList_nil ?_
  simp only [Act.put, List.setIfInBounds_toArray, List.set_cons_zero, List.set_cons_succ]
  clear e12
  go_upto_region 3 with fail
  refine wp_region_list (wpList_flowP 6 (lookW [(3, pu (isS (encS (pB)))), (4, newS w4.heap.size 29 (ptA false zl)), (13, pu (Tup (PtV (decP (encS (pB)))) (.int .i64 (decC (encS (pB)))))), (14, pu (isS (encS (pB)))), (15, pu (Tup (PtV (decP (encS (pB)))) (.int .i64 (decC (encS (pB)))))), (16, pu (PtV (decP (encS (pB))))), (17, pu (isV (.int .i64 (decC (encS (pB))))))]) [3] [14, 15, 13, 16, 17, 4] [16, 17, 4] (by kernel_rfl) (by kernel_rfl) (by kernel_rfl) ⟨rfl, trivial⟩ ?_ ?_)
  · refine FStepsW.cons (FStepW.plain rfl fun a w hS hE => OpTo.move rfl ⟨dOfW.of 14 rfl (hE 3 (by kernel_rfl)), Touch.refl _ _⟩) ?_
    refine FStepsW.cons (FStepW.plain rfl fun a w hS hE => OpTo.call #[a.tmps.getD 14 undef] rfl Tryd.func16 (by kernel_rfl) (by kernel_rfl) (args1 ..) ((pdec_v (hE 14 (by kernel_rfl)) w).mono fun _ _ h => Gives.toW 15 rfl (fun _ _ h => h) h)) ?_
    refine FStepsW.cons (FStepW.plain rfl fun a w hS hE => OpTo.move rfl ⟨dOfW.of 13 rfl (hE 15 (by kernel_rfl)), Touch.refl _ _⟩) ?_
    refine FStepsW.cons (FStepW.plain rfl fun a w hS hE => OpTo.ext0 16 _ rfl rfl (hE 13 (by kernel_rfl)) (fun _ h => h)) ?_
    refine FStepsW.cons (FStepW.plain rfl fun a w hS hE => OpTo.ext1 17 _ rfl rfl (hE 13 (by kernel_rfl)) rfl) ?_
    refine FStepsW.cons (FStepW.plain rfl fun a w hS hE => OpTo.allocG 4 29 (ptA false zl) rfl hS (exec_alloc_pt rfl) rfl) ?_
    exact FStepsW.nil
  intro f w5 hS hF
  obtain ⟨h16, h17, h4, -⟩ := hF
  obtain ⟨b16, l16, q16, e16⟩ := h16
  have P16 := Lib.hid q16
  clear q16
  have e17 : f 17 = .int .i64 (decC (encS (pB))) := h17
  clear h17
  obtain ⟨g4, e4, z4, b4⟩ := h4
  have NE1_4 := Lib.hid (ne_new B1.out b4)
  have NE2_4 := Lib.hid (ne_new B2.out b4)
  replace B1 := Lib.hid (B1.out.touch hS notin_nil)
  replace B2 := Lib.hid (B2.out.touch hS notin_nil)
  have B4 := Lib.hid z4
  have HB4 := Lib.hid (Nat.le_trans HT.out.size b4)
  clear z4 b4
  replace HT := Lib.hid (HT.out.trans hS)
  clear hS
  simp only [setAll, List.setIfInBounds_toArray, List.set_cons_zero, List.set_cons_succ, e16, e17, e4]
  show wpList _ _ _ [_, _] _ _
  refine wpList_store_row rfl 29 (.tmp 4) (.tmp 16) rfl g4 (ptA b16 l16) rfl rfl 29 (ptA false zl) B4.out (by rw [ptA_size P16.out.len]; exact infoP) ((ptA_size zl_len).trans (ptA_size P16.out.len).symm) (ptA_one b16 l16) ?_
  refine wpList_run (v := .int .i64 (decC (encS (pB)))) rfl (exec_assignV rfl rfl) ?_
  refine wpList_nil ?_
  simp only [Act.put, List.setIfInBounds_toArray, List.set_cons_zero, List.set_cons_succ]
  have B1' := (B1.out.frow NE1_4.out (ptA b16 l16))
  have B2' := (B2.out.frow NE2_4.out (ptA b16 l16))
  have B4' := (B4.out.setRow (ptA b16 l16))
  have HT' := (HT.out.setRowE (.inr HB4.out) (ptA b16 l16))
  obtain ⟨w6, hw6⟩ : ∃ w6, w6 = (w5.setRow g4 (ptA b16 l16)) := ⟨_, rfl⟩
  rw [← hw6] at HT' B1' B2' B4'
  rw [← hw6]
  clear hw6 HT B1 B2 B4
  have B1 := Lib.hid B1'
  clear B1'
  have B2 := Lib.hid B2'
  clear B2'
  have B4 := Lib.hid B4'
  clear B4'
  have HT := Lib.hid HT'
  clear HT'
  clear e16 e17 e4
  go_upto_region 4 with fail
  refine wp_region_list (wpList_flowP 5 (lookW [(6, newS w6.heap.size 29 (ptA false zl)), (18, pu (Tup (PtV (decP (⟨#[120]⟩))) (.int .i64 (decC (⟨#[120]⟩))))), (19, pu (Tup (PtV (decP (⟨#[120]⟩))) (.int .i64 (decC (⟨#[120]⟩))))), (20, pu (PtV (decP (⟨#[120]⟩)))), (21, pu (isV (.int .i64 (decC (⟨#[120]⟩)))))]) [] [19, 18, 20, 21, 6] [20, 21, 6] (by kernel_rfl) (by kernel_rfl) (by kernel_rfl) trivial ?_ ?_)
  · refine FStepsW.cons (FStepW.plain rfl fun a w hS hE => OpTo.call #[.string ⟨#[120]⟩] rfl Tryd.func16 (by kernel_rfl) (by kernel_rfl) (args1 ..) ((pdec_v (Eq.refl (Value.string ⟨#[120]⟩)) w).mono fun _ _ h => Gives.toW 19 rfl (fun _ _ h => h) h)) ?_
    refine FStepsW.cons (FStepW.plain rfl fun a w hS hE => OpTo.move rfl ⟨dOfW.of 18 rfl (hE 19 (by kernel_rfl)), Touch.refl _ _⟩) ?_
    refine FStepsW.cons (FStepW.plain rfl fun a w hS hE => OpTo.ext0 20 _ rfl rfl (hE 18 (by kernel_rfl)) (fun _ h => h)) ?_
    refine FStepsW.cons (FStepW.plain rfl fun a w hS hE => OpTo.ext1 21 _ rfl rfl (hE 18 (by kernel_rfl)) rfl) ?_
    refine FStepsW.cons (FStepW.plain rfl fun a w hS hE => OpTo.allocG 6 29 (ptA false zl) rfl hS (exec_alloc_pt rfl) rfl) ?_
    exact FStepsW.nil
  intro f w7 hS hF
  obtain ⟨h20, h21, h6, -⟩ := hF
  obtain ⟨b20, l20, q20, e20⟩ := h20
  have P20 := Lib.hid q20
  clear q20
  have e21 : f 21 = .int .i64 (decC (⟨#[120]⟩)) := h21
  clear h21
  obtain ⟨g6, e6, z6, b6⟩ := h6
  have NE1_6 := Lib.hid (ne_new B1.out b6)
  have NE2_6 := Lib.hid (ne_new B2.out b6)
  have NE4_6 := Lib.hid (ne_new B4.out b6)
  replace B1 := Lib.hid (B1.out.touch hS notin_nil)
  replace B2 := Lib.hid (B2.out.touch hS notin_nil)
  replace B4 := Lib.hid (B4.out.touch hS notin_nil)
  have B6 := Lib.hid z6
  have HB6 := Lib.hid (Nat.le_trans HT.out.size b6)
  clear z6 b6
  replace HT := Lib.hid (HT.out.trans hS)
  clear hS
  simp only [setAll, List.setIfInBounds_toArray, List.set_cons_zero, List.set_cons_succ, e20, e21, e6]
  show wpList _ _ _ [_, _] _ _
  refine wpList_store_row rfl 29 (.tmp 6) (.tmp 20) rfl g6 (ptA b20 l20) rfl rfl 29 (ptA false zl) B6.out (by rw [ptA_size P20.out.len]; exact infoP) ((ptA_size zl_len).trans (ptA_size P20.out.len).symm) (ptA_one b20 l20) ?_
  refine wpList_run (v := .int .i64 (decC (⟨#[120]⟩))) rfl (exec_assignV rfl rfl) ?_
  refine wpList_nil ?_
  simp only [Act.put, List.setIfInBounds_toArray, List.set_cons_zero, List.set_cons_succ]
  have B1' := (B1.out.frow NE1_6.out (ptA b20 l20))
  have B2' := (B2.out.frow NE2_6.out (ptA b20 l20))
  have B4' := (B4.out.frow NE4_6.out (ptA b20 l20))
  have B6' := (B6.out.setRow (ptA b20 l20))
  have HT' := (HT.out.setRowE (.inr HB6.out) (ptA b20 l20))
  obtain ⟨w8, hw8⟩ : ∃ w8, w8 = (w7.setRow g6 (ptA b20 l20)) := ⟨_, rfl⟩
  rw [← hw8] at HT' B1' B2' B4' B6'
  rw [← hw8]
  clear hw8 HT B1 B2 B4 B6
  have B1 := Lib.hid B1'
  clear B1'
  have B2 := Lib.hid B2'
  clear B2'
  have B4 := Lib.hid B4'
  clear B4'
  have B6 := Lib.hid B6'
  clear B6'
  have HT := Lib.hid HT'
  clear HT'
  clear e20 e21 e6
  go_upto_region 5 with fail
  refine wp_region_list (wpList_flowP 4 (lookW [(1, pu (isP (g1))), (8, newS w8.heap.size 29 (ptA false zl)), (22, pu (PtV (pB))), (23, pu (PtV (pB))), (24, pu (PtV (padd (pB) (pB))))]) [1] [22, 23, 24, 8] [24, 8] (by kernel_rfl) (by kernel_rfl) (by kernel_rfl) ⟨rfl, trivial⟩ ?_ ?_)
  · refine FStepsW.cons (FStepW.plain rfl fun a w hS hE => OpTo.rdP 22 (.tmp 1) rfl rfl (g1) (hE 1 (by kernel_rfl)) (B1.out.touch hS notin_nil) P9.out (fun _ h => h)) ?_
    refine FStepsW.cons (FStepW.plain rfl fun a w hS hE => OpTo.rdP 23 (.tmp 1) rfl rfl (g1) (hE 1 (by kernel_rfl)) (B1.out.touch hS notin_nil) P9.out (fun _ h => h)) ?_
    refine FStepsW.cons (FStepW.plain rfl fun a w hS hE => OpTo.call #[a.tmps.getD 22 undef, a.tmps.getD 23 undef] rfl Tryd.func9 (by kernel_rfl) (by kernel_rfl) (args2 ..) ((padd_v (hE 22 (by kernel_rfl)) (hE 23 (by kernel_rfl)) w).mono fun _ _ h => Gives.toW 24 rfl (fun _ _ h => h) h)) ?_
    refine FStepsW.cons (FStepW.plain rfl fun a w hS hE => OpTo.allocG 8 29 (ptA false zl) rfl hS (exec_alloc_pt rfl) rfl) ?_
    exact FStepsW.nil
  intro f w9 hS hF
  obtain ⟨h24, h8, -⟩ := hF
  obtain ⟨b24, l24, q24, e24⟩ := h24
  have P24 := Lib.hid q24
  clear q24
  obtain ⟨g8, e8, z8, b8⟩ := h8
  have NE1_8 := Lib.hid (ne_new B1.out b8)
  have NE2_8 := Lib.hid (ne_new B2.out b8)
  have NE4_8 := Lib.hid (ne_new B4.out b8)
  have NE6_8 := Lib.hid (ne_new B6.out b8)
  replace B1 := Lib.hid (B1.out.touch hS notin_nil)
  replace B2 := Lib.hid (B2.out.touch hS notin_nil)
  replace B4 := Lib.hid (B4.out.touch hS notin_nil)
  replace B6 := Lib.hid (B6.out.touch hS notin_nil)
  have B8 := Lib.hid z8
  have HB8 := Lib.hid (Nat.le_trans HT.out.size b8)
  clear z8 b8
  replace HT := Lib.hid (HT.out.trans hS)
  clear hS
  simp only [setAll, List.setIfInBounds_toArray, List.set_cons_zero, List.set_cons_succ, e24, e8]
  show wpList _ _ _ [_] _ _
  refine wpList_store_row rfl 29 (.tmp 8) (.tmp 24) rfl g8 (ptA b24 l24) rfl rfl 29 (ptA false zl) B8.out (by rw [ptA_size P24.out.len]; exact infoP) ((ptA_size zl_len).trans (ptA_size P24.out.len).symm) (ptA_one b24 l24) ?_
  refine wpList_nil ?_
  simp only [Act.put]
  have B1' := (B1.out.frow NE1_8.out (ptA b24 l24))
  have B2' := (B2.out.frow NE2_8.out (ptA b24 l24))
  have B4' := (B4.out.frow NE4_8.out (ptA b24 l24))
  have B6' := (B6.out.frow NE6_8.out (ptA b24 l24))
  have B8' := (B8.out.setRow (ptA b24 l24))
  have HT' := (HT.out.setRowE (.inr HB8.out) (ptA b24 l24))
  obtain ⟨w10, hw10⟩ : ∃ w10, w10 = (w9.setRow g8 (ptA b24 l24)) := ⟨_, rfl⟩
  rw [← hw10] at HT' B1' B2' B4' B6' B8'
  rw [← hw10]
  clear hw10 HT B1 B2 B4 B6 B8
  have B1 := Lib.hid B1'
  clear B1'
  have B2 := Lib.hid B2'
  clear B2'
  have B4 := Lib.hid B4'
  clear B4'
  have B6 := Lib.hid B6'
  clear B6'
  have B8 := Lib.hid B8'
  clear B8'
  have HT := Lib.hid HT'
  clear HT'
  clear e24 e8
  go_upto_region 6 with fail
  refine wp_region_flowX (lookW [(0, pu (isB true)), (1, pu (isP (g1))), (2, pu (isP (g2))), (3, pu (isS (encS (pB)))), (4, pu (isP (g4))), (5, pu (isV (.int .i64 (decC (encS (pB)))))), (7, pu (isV (.int .i64 (decC (⟨#[120]⟩))))), (8, pu (isP (g8))), (25, pu (isS (encS (pB)))), (26, pu (isV (.int .i64 (((encS (pB)).size : Int))))), (27, pu (isB true)), (28, pu (isB true)), (29, pu (isS (encS (pB)))), (30, pu (isV (.int .u8 (((88 : Nat) : Int))))), (31, pu (isB true)), (32, pu (isB true)), (33, pu (isB true)), (34, pu (isS (encS (pB)))), (35, pu (isV (.int .u8 (((102 : Nat) : Int))))), (36, pu (isB true)), (37, pu (isB true)), (38, pu (isB true)), (39, pu (isV (.int .i64 (decC (encS (pB)))))), (40, pu (isB true)), (41, pu (isB true)), (42, pu (isB true)), (43, pu (PtV (decP (encS (pB))))), (44, pu (PtV (pB))), (45, pu (isB true)), (46, pu (isB true)), (47, pu (isB true)), (48, pu (isV (.int .i64 (decC (⟨#[120]⟩))))), (49, pu (isB true)), (50, pu (isB true)), (51, pu (isB true)), (52, pu (PtV (pB))), (53, pu (PtV (pzero))), (54, pu (isB false)), (55, pu (isB true)), (56, pu (isB true)), (57, pu (isB true)), (58, pu (PtV (padd (pB) (pB)))), (59, pu (PtV (pB))), (60, pu (PtV (pmul (lowN (⟨#[2]⟩)) (pB)))), (61, pu (isB true)), (62, pu (isB true)), (63, pu (isB true)), (64, pu (PtV (padd (pB) (pB)))), (65, pu (PtV (pB))), (66, pu (isB false)), (67, pu (isB true)), (68, pu (isB true)), (69, pu (isB true)), (70, pu (PtV (pB))), (71, pu (PtV (pzero))), (72, pu (PtV (padd (pB) (pzero)))), (73, pu (PtV (pB))), (74, pu (isB true)), (75, pu (isB true)), (76, pu (isB true)), (77, pu (PtV (pB))), (78, pu (PtV (pB))), (79, pu (PtV (pneg (pB)))), (80, pu (PtV (padd (pB) (pneg (pB))))), (81, pu (PtV (pzero))), (82, pu (isB true)), (83, pu (isB true)), (84, pu (isB true)), (85, pu (PtV (pzero))), (86, pu (isB true)), (87, pu (isB true)), (88, pu (isB true)), (89, pu (PtV (pB))), (90, pu (isB false)), (91, pu (isB true)), (92, pu (isB true)), (93, pu (isB true)), (94, pu (PtV (pzero))), (95, pu (isS (encS (pzero)))), (96, pu (isV (.int .i64 (((encS (pzero)).size : Int))))), (97, pu (isB true)), (98, pu (isB true)), (99, pu (isB true)), (100, pu (PtV (pzero))), (101, pu (isS (encS (pzero)))), (102, pu (isV (.int .u8 (((1 : Nat) : Int))))), (103, pu (isB true)), (104, pu (isB true)), (105, pu (isB true)), (106, pu (PtV (pzero))), (107, pu (isS (encS (pzero)))), (108, pu (isV (.int .u8 (((0 : Nat) : Int))))), (109, pu (isB true)), (110, pu (isB true)), (111, pu (isB true)), (112, pu (isS (toS (DN)))), (113, pu (isS (toS (121666)))), (114, pu (isS (toS (mulF (DN) (121666))))), (115, pu (isS (toS (121665)))), (116, pu (isS (toS (negF (121665))))), (117, pu (isB true)), (118, pu (isB true))]) (by kernel_rfl) 95 [] (fun d _ _ _ _ h => by cases d <;> exact h) (by intro l hl; cases hl) [1, 2, 3, 4, 5, 7, 8] [25, 26, 27, 28, 29, 30, 31, 32, 33, 34, 35, 36, 37, 38, 39, 40, 41, 42, 43, 44, 45, 46, 47, 48, 49, 50, 51, 52, 53, 54, 55, 56, 57, 58, 59, 60, 61, 62, 63, 64, 65, 66, 67, 68, 69, 70, 71, 72, 73, 74, 75, 76, 77, 78, 79, 80, 81, 82, 83, 84, 85, 86, 87, 88, 89, 90, 91, 92, 93, 94, 95, 96, 97, 98, 99, 100, 101, 102, 103, 104, 105, 106, 107, 108, 109, 110, 111, 112, 113, 114, 115, 116, 117, 118, 0] [0] [] (by kernel_rfl) (by kernel_rfl) (by kernel_rfl) (by kernel_rfl) (by kernel_rfl) (by kernel_rfl) ⟨rfl, rfl, rfl, rfl, rfl, rfl, rfl, trivial⟩ ?_ ?_
  · refine FStepsX.cons rfl (FStepW.plain rfl fun a w hS hE => OpTo.move rfl ⟨dOfW.of 25 rfl (hE 3 (by kernel_rfl)), Touch.refl _ _⟩) ?_
    refine FStepsX.cons rfl (FStepW.plain rfl fun a w hS hE => OpTo.lenS Tryd.underlying9 (encS (pB)) rfl (hE 25 (by kernel_rfl)) ⟨dOfW.of 26 rfl rfl, Touch.refl _ _⟩) ?_
    refine FStepsX.cons rfl (FStepW.plain rfl fun a w hS hE => OpTo.eqI .i64 (((encS (pB)).size : Int)) (32) rfl (hE 26 (by kernel_rfl)) rfl ⟨dOfW.of 27 rfl (by rw [fx_len pB]; rfl), Touch.refl _ _⟩) ?_
    refine FStepsX.cons rfl (FStepW.plain rfl fun a w hS hE => OpTo.move rfl ⟨dOfW.of 28 rfl (hE 27 (by kernel_rfl)), Touch.refl _ _⟩) ?_
    refine FStepsX.cons rfl (FStepW.go 28 rfl rfl (fun _ _ h => h) fun a w hS hE => OpTo.move rfl ⟨dOfW.of 29 rfl (hE 3 (by kernel_rfl)), Touch.refl _ _⟩) ?_
    refine FStepsX.cons rfl (FStepW.go 28 rfl rfl (fun _ _ h => h) fun a w hS hE => OpTo.indexS Tryd.underlying9 (encS (pB)) (0) rfl (hE 29 (by kernel_rfl)) rfl (fx_lt pB 0 (by decide)) ⟨dOfW.of 30 rfl (by rw [fx30]; rfl), Touch.refl _ _⟩) ?_
    refine FStepsX.cons rfl (FStepW.go 28 rfl rfl (fun _ _ h => h) fun a w hS hE => OpTo.eqI .u8 (((88 : Nat) : Int)) (88) rfl (hE 30 (by kernel_rfl)) rfl ⟨dOfW.of 31 rfl (by rw [(decide_eq_true rfl : decide (((88 : Nat) : Int) = 88) = true)]; rfl), Touch.refl _ _⟩) ?_
    refine FStepsX.cons rfl (FStepW.plain rfl fun a w hS hE => OpTo.pick true rfl (hE 28 (by kernel_rfl)) ⟨dOfW.of 32 rfl (hE 31 (by kernel_rfl)), Touch.refl _ _⟩) ?_
    refine FStepsX.cons rfl (FStepW.plain rfl fun a w hS hE => OpTo.move rfl ⟨dOfW.of 33 rfl (hE 32 (by kernel_rfl)), Touch.refl _ _⟩) ?_
    refine FStepsX.cons rfl (FStepW.go 33 rfl rfl (fun _ _ h => h) fun a w hS hE => OpTo.move rfl ⟨dOfW.of 34 rfl (hE 3 (by kernel_rfl)), Touch.refl _ _⟩) ?_
    refine FStepsX.cons rfl (FStepW.go 33 rfl rfl (fun _ _ h => h) fun a w hS hE => OpTo.indexS Tryd.underlying9 (encS (pB)) (31) rfl (hE 34 (by kernel_rfl)) rfl (fx_lt pB 31 (by decide)) ⟨dOfW.of 35 rfl (by rw [fx35]; rfl), Touch.refl _ _⟩) ?_
    refine FStepsX.cons rfl (FStepW.go 33 rfl rfl (fun _ _ h => h) fun a w hS hE => OpTo.eqI .u8 (((102 : Nat) : Int)) (102) rfl (hE 35 (by kernel_rfl)) rfl ⟨dOfW.of 36 rfl (by rw [(decide_eq_true rfl : decide (((102 : Nat) : Int) = 102) = true)]; rfl), Touch.refl _ _⟩) ?_
    refine FStepsX.cons rfl (FStepW.plain rfl fun a w hS hE => OpTo.pick true rfl (hE 33 (by kernel_rfl)) ⟨dOfW.of 37 rfl (hE 36 (by kernel_rfl)), Touch.refl _ _⟩) ?_
    refine FStepsX.cons rfl (FStepW.plain rfl fun a w hS hE => OpTo.move rfl ⟨dOfW.of 38 rfl (hE 37 (by kernel_rfl)), Touch.refl _ _⟩) ?_
    refine FStepsX.cons rfl (FStepW.go 38 rfl rfl (fun _ _ h => h) fun a w hS hE => OpTo.move rfl ⟨dOfW.of 39 rfl (hE 5 (by kernel_rfl)), Touch.refl _ _⟩) ?_
    refine FStepsX.cons rfl (FStepW.go 38 rfl rfl (fun _ _ h => h) fun a w hS hE => OpTo.eqI .i64 (decC (encS (pB))) (0) rfl (hE 39 (by kernel_rfl)) rfl ⟨dOfW.of 40 rfl (by rw [fx40]; rfl), Touch.refl _ _⟩) ?_
    refine FStepsX.cons rfl (FStepW.plain rfl fun a w hS hE => OpTo.pick true rfl (hE 38 (by kernel_rfl)) ⟨dOfW.of 41 rfl (hE 40 (by kernel_rfl)), Touch.refl _ _⟩) ?_
    refine FStepsX.cons rfl (FStepW.plain rfl fun a w hS hE => OpTo.move rfl ⟨dOfW.of 42 rfl (hE 41 (by kernel_rfl)), Touch.refl _ _⟩) ?_
    refine FStepsX.cons rfl (FStepW.go 42 rfl rfl (fun _ _ h => h) fun a w hS hE => OpTo.rdP 43 (.tmp 4) rfl rfl (g4) (hE 4 (by kernel_rfl)) (B4.out.touch hS notin_nil) P16.out (fun _ h => h)) ?_
    refine FStepsX.cons rfl (FStepW.go 42 rfl rfl (fun _ _ h => h) fun a w hS hE => OpTo.rdP 44 (.tmp 1) rfl rfl (g1) (hE 1 (by kernel_rfl)) (B1.out.touch hS notin_nil) P9.out (fun _ h => h)) ?_
    refine FStepsX.cons rfl (FStepW.go 42 rfl rfl (fun _ _ h => h) fun a w hS hE => OpTo.call #[a.tmps.getD 43 undef, a.tmps.getD 44 undef] rfl Tryd.func8 (by kernel_rfl) (by kernel_rfl) (args2 ..) ((psame_b (hE 43 (by kernel_rfl)) (hE 44 (by kernel_rfl)) fx45 w).mono fun _ _ h => Gives.toW 45 rfl (fun _ _ h => h) h)) ?_
    refine FStepsX.cons rfl (FStepW.plain rfl fun a w hS hE => OpTo.pick true rfl (hE 42 (by kernel_rfl)) ⟨dOfW.of 46 rfl (hE 45 (by kernel_rfl)), Touch.refl _ _⟩) ?_
    refine FStepsX.cons rfl (FStepW.plain rfl fun a w hS hE => OpTo.move rfl ⟨dOfW.of 47 rfl (hE 46 (by kernel_rfl)), Touch.refl _ _⟩) ?_
    refine FStepsX.cons rfl (FStepW.go 47 rfl rfl (fun _ _ h => h) fun a w hS hE => OpTo.move rfl ⟨dOfW.of 48 rfl (hE 7 (by kernel_rfl)), Touch.refl _ _⟩) ?_
    refine FStepsX.cons rfl (FStepW.go 47 rfl rfl (fun _ _ h => h) fun a w hS hE => OpTo.eqI .i64 (decC (⟨#[120]⟩)) (9) rfl (hE 48 (by kernel_rfl)) rfl ⟨dOfW.of 49 rfl (by rw [fx49]; rfl), Touch.refl _ _⟩) ?_
    refine FStepsX.cons rfl (FStepW.plain rfl fun a w hS hE => OpTo.pick true rfl (hE 47 (by kernel_rfl)) ⟨dOfW.of 50 rfl (hE 49 (by kernel_rfl)), Touch.refl _ _⟩) ?_
    refine FStepsX.cons rfl (FStepW.plain rfl fun a w hS hE => OpTo.move rfl ⟨dOfW.of 51 rfl (hE 50 (by kernel_rfl)), Touch.refl _ _⟩) ?_
    refine FStepsX.cons rfl (FStepW.go 51 rfl rfl (fun _ _ h => h) fun a w hS hE => OpTo.rdP 52 (.tmp 1) rfl rfl (g1) (hE 1 (by kernel_rfl)) (B1.out.touch hS notin_nil) P9.out (fun _ h => h)) ?_
    refine FStepsX.cons rfl (FStepW.go 51 rfl rfl (fun _ _ h => h) fun a w hS hE => OpTo.rdP 53 (.tmp 2) rfl rfl (g2) (hE 2 (by kernel_rfl)) (B2.out.touch hS notin_nil) P10.out (fun _ h => h)) ?_
    refine FStepsX.cons rfl (FStepW.go 51 rfl rfl (fun _ _ h => h) fun a w hS hE => OpTo.call #[a.tmps.getD 52 undef, a.tmps.getD 53 undef] rfl Tryd.func8 (by kernel_rfl) (by kernel_rfl) (args2 ..) ((psame_b (hE 52 (by kernel_rfl)) (hE 53 (by kernel_rfl)) fx54 w).mono fun _ _ h => Gives.toW 54 rfl (fun _ _ h => h) h)) ?_
    refine FStepsX.cons rfl (FStepW.go 51 rfl rfl (fun _ _ h => h) fun a w hS hE => OpTo.not false rfl (hE 54 (by kernel_rfl)) ⟨dOfW.of 55 rfl (Eq.refl (Value.bool true)), Touch.refl _ _⟩) ?_
    refine FStepsX.cons rfl (FStepW.plain rfl fun a w hS hE => OpTo.pick true rfl (hE 51 (by kernel_rfl)) ⟨dOfW.of 56 rfl (hE 55 (by kernel_rfl)), Touch.refl _ _⟩) ?_
    refine FStepsX.cons rfl (FStepW.plain rfl fun a w hS hE => OpTo.move rfl ⟨dOfW.of 57 rfl (hE 56 (by kernel_rfl)), Touch.refl _ _⟩) ?_
    refine FStepsX.cons rfl (FStepW.go 57 rfl rfl (fun _ _ h => h) fun a w hS hE => OpTo.rdP 58 (.tmp 8) rfl rfl (g8) (hE 8 (by kernel_rfl)) (B8.out.touch hS notin_nil) P24.out (fun _ h => h)) ?_
    refine FStepsX.cons rfl (FStepW.go 57 rfl rfl (fun _ _ h => h) fun a w hS hE => OpTo.rdP 59 (.tmp 1) rfl rfl (g1) (hE 1 (by kernel_rfl)) (B1.out.touch hS notin_nil) P9.out (fun _ h => h)) ?_
    refine FStepsX.cons rfl (FStepW.go 57 rfl rfl (fun _ _ h => h) fun a w hS hE => OpTo.call #[a.tmps.getD 59 undef, .string ⟨#[2]⟩] rfl Tryd.func7 (by kernel_rfl) (by kernel_rfl) (args2 ..) ((pmul_v (hE 59 (by kernel_rfl)) (Eq.refl (Value.string ⟨#[2]⟩)) w).mono fun _ _ h => Gives.toW 60 rfl (fun _ _ h => h) h)) ?_
    refine FStepsX.cons rfl (FStepW.go 57 rfl rfl (fun _ _ h => h) fun a w hS hE => OpTo.call #[a.tmps.getD 58 undef, a.tmps.getD 60 undef] rfl Tryd.func8 (by kernel_rfl) (by kernel_rfl) (args2 ..) ((psame_b (hE 58 (by kernel_rfl)) (hE 60 (by kernel_rfl)) fx61 w).mono fun _ _ h => Gives.toW 61 rfl (fun _ _ h => h) h)) ?_
    refine FStepsX.cons rfl (FStepW.plain rfl fun a w hS hE => OpTo.pick true rfl (hE 57 (by kernel_rfl)) ⟨dOfW.of 62 rfl (hE 61 (by kernel_rfl)), Touch.refl _ _⟩) ?_
    refine FStepsX.cons rfl (FStepW.plain rfl fun a w hS hE => OpTo.move rfl ⟨dOfW.of 63 rfl (hE 62 (by kernel_rfl)), Touch.refl _ _⟩) ?_
    refine FStepsX.cons rfl (FStepW.go 63 rfl rfl (fun _ _ h => h) fun a w hS hE => OpTo.rdP 64 (.tmp 8) rfl rfl (g8) (hE 8 (by kernel_rfl)) (B8.out.touch hS notin_nil) P24.out (fun _ h => h)) ?_
    refine FStepsX.cons rfl (FStepW.go 63 rfl rfl (fun _ _ h => h) fun a w hS hE => OpTo.rdP 65 (.tmp 1) rfl rfl (g1) (hE 1 (by kernel_rfl)) (B1.out.touch hS notin_nil) P9.out (fun _ h => h)) ?_
    refine FStepsX.cons rfl (FStepW.go 63 rfl rfl (fun _ _ h => h) fun a w hS hE => OpTo.call #[a.tmps.getD 64 undef, a.tmps.getD 65 undef] rfl Tryd.func8 (by kernel_rfl) (by kernel_rfl) (args2 ..) ((psame_b (hE 64 (by kernel_rfl)) (hE 65 (by kernel_rfl)) fx66 w).mono fun _ _ h => Gives.toW 66 rfl (fun _ _ h => h) h)) ?_
    refine FStepsX.cons rfl (FStepW.go 63 rfl rfl (fun _ _ h => h) fun a w hS hE => OpTo.not false rfl (hE 66 (by kernel_rfl)) ⟨dOfW.of 67 rfl (Eq.refl (Value.bool true)), Touch.refl _ _⟩) ?_
    refine FStepsX.cons rfl (FStepW.plain rfl fun a w hS hE => OpTo.pick true rfl (hE 63 (by kernel_rfl)) ⟨dOfW.of 68 rfl (hE 67 (by kernel_rfl)), Touch.refl _ _⟩) ?_
    refine FStepsX.cons rfl (FStepW.plain rfl fun a w hS hE => OpTo.move rfl ⟨dOfW.of 69 rfl (hE 68 (by kernel_rfl)), Touch.refl _ _⟩) ?_
    refine FStepsX.cons rfl (FStepW.go 69 rfl rfl (fun _ _ h => h) fun a w hS hE => OpTo.rdP 70 (.tmp 1) rfl rfl (g1) (hE 1 (by kernel_rfl)) (B1.out.touch hS notin_nil) P9.out (fun _ h => h)) ?_
    refine FStepsX.cons rfl (FStepW.go 69 rfl rfl (fun _ _ h => h) fun a w hS hE => OpTo.rdP 71 (.tmp 2) rfl rfl (g2) (hE 2 (by kernel_rfl)) (B2.out.touch hS notin_nil) P10.out (fun _ h => h)) ?_
    refine FStepsX.cons rfl (FStepW.go 69 rfl rfl (fun _ _ h => h) fun a w hS hE => OpTo.call #[a.tmps.getD 70 undef, a.tmps.getD 71 undef] rfl Tryd.func9 (by kernel_rfl) (by kernel_rfl) (args2 ..) ((padd_v (hE 70 (by kernel_rfl)) (hE 71 (by kernel_rfl)) w).mono fun _ _ h => Gives.toW 72 rfl (fun _ _ h => h) h)) ?_
    refine FStepsX.cons rfl (FStepW.go 69 rfl rfl (fun _ _ h => h) fun a w hS hE => OpTo.rdP 73 (.tmp 1) rfl rfl (g1) (hE 1 (by kernel_rfl)) (B1.out.touch hS notin_nil) P9.out (fun _ h => h)) ?_
    refine FStepsX.cons rfl (FStepW.go 69 rfl rfl (fun _ _ h => h) fun a w hS hE => OpTo.call #[a.tmps.getD 72 undef, a.tmps.getD 73 undef] rfl Tryd.func8 (by kernel_rfl) (by kernel_rfl) (args2 ..) ((psame_b (hE 72 (by kernel_rfl)) (hE 73 (by kernel_rfl)) fx74 w).mono fun _ _ h => Gives.toW 74 rfl (fun _ _ h => h) h)) ?_
    refine FStepsX.cons rfl (FStepW.plain rfl fun a w hS hE => OpTo.pick true rfl (hE 69 (by kernel_rfl)) ⟨dOfW.of 75 rfl (hE 74 (by kernel_rfl)), Touch.refl _ _⟩) ?_
    refine FStepsX.cons rfl (FStepW.plain rfl fun a w hS hE => OpTo.move rfl ⟨dOfW.of 76 rfl (hE 75 (by kernel_rfl)), Touch.refl _ _⟩) ?_
    refine FStepsX.cons rfl (FStepW.go 76 rfl rfl (fun _ _ h => h) fun a w hS hE => OpTo.rdP 77 (.tmp 1) rfl rfl (g1) (hE 1 (by kernel_rfl)) (B1.out.touch hS notin_nil) P9.out (fun _ h => h)) ?_
    refine FStepsX.cons rfl (FStepW.go 76 rfl rfl (fun _ _ h => h) fun a w hS hE => OpTo.rdP 78 (.tmp 1) rfl rfl (g1) (hE 1 (by kernel_rfl)) (B1.out.touch hS notin_nil) P9.out (fun _ h => h)) ?_
    refine FStepsX.cons rfl (FStepW.go 76 rfl rfl (fun _ _ h => h) fun a w hS hE => OpTo.call #[a.tmps.getD 78 undef] rfl Tryd.func11 (by kernel_rfl) (by kernel_rfl) (args1 ..) ((pneg_v (hE 78 (by kernel_rfl)) w).mono fun _ _ h => Gives.toW 79 rfl (fun _ _ h => h) h)) ?_
    refine FStepsX.cons rfl (FStepW.go 76 rfl rfl (fun _ _ h => h) fun a w hS hE => OpTo.call #[a.tmps.getD 77 undef, a.tmps.getD 79 undef] rfl Tryd.func9 (by kernel_rfl) (by kernel_rfl) (args2 ..) ((padd_v (hE 77 (by kernel_rfl)) (hE 79 (by kernel_rfl)) w).mono fun _ _ h => Gives.toW 80 rfl (fun _ _ h => h) h)) ?_
    refine FStepsX.cons rfl (FStepW.go 76 rfl rfl (fun _ _ h => h) fun a w hS hE => OpTo.rdP 81 (.tmp 2) rfl rfl (g2) (hE 2 (by kernel_rfl)) (B2.out.touch hS notin_nil) P10.out (fun _ h => h)) ?_
    refine FStepsX.cons rfl (FStepW.go 76 rfl rfl (fun _ _ h => h) fun a w hS hE => OpTo.call #[a.tmps.getD 80 undef, a.tmps.getD 81 undef] rfl Tryd.func8 (by kernel_rfl) (by kernel_rfl) (args2 ..) ((psame_b (hE 80 (by kernel_rfl)) (hE 81 (by kernel_rfl)) fx82 w).mono fun _ _ h => Gives.toW 82 rfl (fun _ _ h => h) h)) ?_
    refine FStepsX.cons rfl (FStepW.plain rfl fun a w hS hE => OpTo.pick true rfl (hE 76 (by kernel_rfl)) ⟨dOfW.of 83 rfl (hE 82 (by kernel_rfl)), Touch.refl _ _⟩) ?_
    refine FStepsX.cons rfl (FStepW.plain rfl fun a w hS hE => OpTo.move rfl ⟨dOfW.of 84 rfl (hE 83 (by kernel_rfl)), Touch.refl _ _⟩) ?_
    refine FStepsX.cons rfl (FStepW.go 84 rfl rfl (fun _ _ h => h) fun a w hS hE => OpTo.rdP 85 (.tmp 2) rfl rfl (g2) (hE 2 (by kernel_rfl)) (B2.out.touch hS notin_nil) P10.out (fun _ h => h)) ?_
    refine FStepsX.cons rfl (FStepW.go 84 rfl rfl (fun _ _ h => h) fun a w hS hE => OpTo.call #[a.tmps.getD 85 undef] rfl Tryd.func31 (by kernel_rfl) (by kernel_rfl) (args1 ..) ((small_b (hE 85 (by kernel_rfl)) fx86 w).mono fun _ _ h => Gives.toW 86 rfl (fun _ _ h => h) h)) ?_
    refine FStepsX.cons rfl (FStepW.plain rfl fun a w hS hE => OpTo.pick true rfl (hE 84 (by kernel_rfl)) ⟨dOfW.of 87 rfl (hE 86 (by kernel_rfl)), Touch.refl _ _⟩) ?_
    refine FStepsX.cons rfl (FStepW.plain rfl fun a w hS hE => OpTo.move rfl ⟨dOfW.of 88 rfl (hE 87 (by kernel_rfl)), Touch.refl _ _⟩) ?_
    refine FStepsX.cons rfl (FStepW.go 88 rfl rfl (fun _ _ h => h) fun a w hS hE => OpTo.rdP 89 (.tmp 1) rfl rfl (g1) (hE 1 (by kernel_rfl)) (B1.out.touch hS notin_nil) P9.out (fun _ h => h)) ?_
    refine FStepsX.cons rfl (FStepW.go 88 rfl rfl (fun _ _ h => h) fun a w hS hE => OpTo.call #[a.tmps.getD 89 undef] rfl Tryd.func31 (by kernel_rfl) (by kernel_rfl) (args1 ..) ((small_b (hE 89 (by kernel_rfl)) fx90 w).mono fun _ _ h => Gives.toW 90 rfl (fun _ _ h => h) h)) ?_
    refine FStepsX.cons rfl (FStepW.go 88 rfl rfl (fun _ _ h => h) fun a w hS hE => OpTo.not false rfl (hE 90 (by kernel_rfl)) ⟨dOfW.of 91 rfl (Eq.refl (Value.bool true)), Touch.refl _ _⟩) ?_
    refine FStepsX.cons rfl (FStepW.plain rfl fun a w hS hE => OpTo.pick true rfl (hE 88 (by kernel_rfl)) ⟨dOfW.of 92 rfl (hE 91 (by kernel_rfl)), Touch.refl _ _⟩) ?_
    refine FStepsX.cons rfl (FStepW.plain rfl fun a w hS hE => OpTo.move rfl ⟨dOfW.of 93 rfl (hE 92 (by kernel_rfl)), Touch.refl _ _⟩) ?_
    refine FStepsX.cons rfl (FStepW.go 93 rfl rfl (fun _ _ h => h) fun a w hS hE => OpTo.rdP 94 (.tmp 2) rfl rfl (g2) (hE 2 (by kernel_rfl)) (B2.out.touch hS notin_nil) P10.out (fun _ h => h)) ?_
    refine FStepsX.cons rfl (FStepW.go 93 rfl rfl (fun _ _ h => h) fun a w hS hE => OpTo.call #[a.tmps.getD 94 undef] rfl Tryd.func30 (by kernel_rfl) (by kernel_rfl) (args1 ..) ((penc_v (hE 94 (by kernel_rfl)) w).mono fun _ _ h => Gives.toW 95 rfl (fun _ _ h => h) h)) ?_
    refine FStepsX.cons rfl (FStepW.go 93 rfl rfl (fun _ _ h => h) fun a w hS hE => OpTo.lenS Tryd.underlying9 (encS (pzero)) rfl (hE 95 (by kernel_rfl)) ⟨dOfW.of 96 rfl rfl, Touch.refl _ _⟩) ?_
    refine FStepsX.cons rfl (FStepW.go 93 rfl rfl (fun _ _ h => h) fun a w hS hE => OpTo.eqI .i64 (((encS (pzero)).size : Int)) (32) rfl (hE 96 (by kernel_rfl)) rfl ⟨dOfW.of 97 rfl (by rw [fx_len pzero]; rfl), Touch.refl _ _⟩) ?_
    refine FStepsX.cons rfl (FStepW.plain rfl fun a w hS hE => OpTo.pick true rfl (hE 93 (by kernel_rfl)) ⟨dOfW.of 98 rfl (hE 97 (by kernel_rfl)), Touch.refl _ _⟩) ?_
    refine FStepsX.cons rfl (FStepW.plain rfl fun a w hS hE => OpTo.move rfl ⟨dOfW.of 99 rfl (hE 98 (by kernel_rfl)), Touch.refl _ _⟩) ?_
    refine FStepsX.cons rfl (FStepW.go 99 rfl rfl (fun _ _ h => h) fun a w hS hE => OpTo.rdP 100 (.tmp 2) rfl rfl (g2) (hE 2 (by kernel_rfl)) (B2.out.touch hS notin_nil) P10.out (fun _ h => h)) ?_
    refine FStepsX.cons rfl (FStepW.go 99 rfl rfl (fun _ _ h => h) fun a w hS hE => OpTo.call #[a.tmps.getD 100 undef] rfl Tryd.func30 (by kernel_rfl) (by kernel_rfl) (args1 ..) ((penc_v (hE 100 (by kernel_rfl)) w).mono fun _ _ h => Gives.toW 101 rfl (fun _ _ h => h) h)) ?_
    refine FStepsX.cons rfl (FStepW.go 99 rfl rfl (fun _ _ h => h) fun a w hS hE => OpTo.indexS Tryd.underlying9 (encS (pzero)) (0) rfl (hE 101 (by kernel_rfl)) rfl (fx_lt pzero 0 (by decide)) ⟨dOfW.of 102 rfl (by rw [fx102]; rfl), Touch.refl _ _⟩) ?_
    refine FStepsX.cons rfl (FStepW.go 99 rfl rfl (fun _ _ h => h) fun a w hS hE => OpTo.eqI .u8 (((1 : Nat) : Int)) (1) rfl (hE 102 (by kernel_rfl)) rfl ⟨dOfW.of 103 rfl (by rw [(decide_eq_true rfl : decide (((1 : Nat) : Int) = 1) = true)]; rfl), Touch.refl _ _⟩) ?_
    refine FStepsX.cons rfl (FStepW.plain rfl fun a w hS hE => OpTo.pick true rfl (hE 99 (by kernel_rfl)) ⟨dOfW.of 104 rfl (hE 103 (by kernel_rfl)), Touch.refl _ _⟩) ?_
    refine FStepsX.cons rfl (FStepW.plain rfl fun a w hS hE => OpTo.move rfl ⟨dOfW.of 105 rfl (hE 104 (by kernel_rfl)), Touch.refl _ _⟩) ?_
    refine FStepsX.cons rfl (FStepW.go 105 rfl rfl (fun _ _ h => h) fun a w hS hE => OpTo.rdP 106 (.tmp 2) rfl rfl (g2) (hE 2 (by kernel_rfl)) (B2.out.touch hS notin_nil) P10.out (fun _ h => h)) ?_
    refine FStepsX.cons rfl (FStepW.go 105 rfl rfl (fun _ _ h => h) fun a w hS hE => OpTo.call #[a.tmps.getD 106 undef] rfl Tryd.func30 (by kernel_rfl) (by kernel_rfl) (args1 ..) ((penc_v (hE 106 (by kernel_rfl)) w).mono fun _ _ h => Gives.toW 107 rfl (fun _ _ h => h) h)) ?_
    refine FStepsX.cons rfl (FStepW.go 105 rfl rfl (fun _ _ h => h) fun a w hS hE => OpTo.indexS Tryd.underlying9 (encS (pzero)) (31) rfl (hE 107 (by kernel_rfl)) rfl (fx_lt pzero 31 (by decide)) ⟨dOfW.of 108 rfl (by rw [fx108]; rfl), Touch.refl _ _⟩) ?_
    refine FStepsX.cons rfl (FStepW.go 105 rfl rfl (fun _ _ h => h) fun a w hS hE => OpTo.eqI .u8 (((0 : Nat) : Int)) (0) rfl (hE 108 (by kernel_rfl)) rfl ⟨dOfW.of 109 rfl (by rw [(decide_eq_true rfl : decide (((0 : Nat) : Int) = 0) = true)]; rfl), Touch.refl _ _⟩) ?_
    refine FStepsX.cons rfl (FStepW.plain rfl fun a w hS hE => OpTo.pick true rfl (hE 105 (by kernel_rfl)) ⟨dOfW.of 110 rfl (hE 109 (by kernel_rfl)), Touch.refl _ _⟩) ?_
    refine FStepsX.cons rfl (FStepW.plain rfl fun a w hS hE => OpTo.move rfl ⟨dOfW.of 111 rfl (hE 110 (by kernel_rfl)), Touch.refl _ _⟩) ?_
    refine FStepsX.cons rfl (FStepW.go 111 rfl rfl (fun _ _ h => h) fun a w hS hE => OpTo.call #[] rfl Tryd.func33 (by kernel_rfl) (by kernel_rfl) (args0 ..) ((rd_v w).mono fun _ _ h => Gives.toW 112 rfl (fun _ _ h => h) h)) ?_
    refine FStepsX.cons rfl (FStepW.go 111 rfl rfl (fun _ _ h => h) fun a w hS hE => OpTo.call #[.int .u64 121666] rfl Tryd.func34 (by kernel_rfl) (by kernel_rfl) (args1 ..) ((rnum_v 121666 (by decide) w).mono fun _ _ h => Gives.toW 113 rfl (fun _ _ h => h) h)) ?_
    refine FStepsX.cons rfl (FStepW.go 111 rfl rfl (fun _ _ h => h) fun a w hS hE => OpTo.call #[a.tmps.getD 112 undef, a.tmps.getD 113 undef] rfl Tryd.func32 (by kernel_rfl) (by kernel_rfl) (args2 ..) ((rmul_v (hE 112 (by kernel_rfl)) (hE 113 (by kernel_rfl)) DN_lt (by decide) w).mono fun _ _ h => Gives.toW 114 rfl (fun _ _ h => h) h)) ?_
    refine FStepsX.cons rfl (FStepW.go 111 rfl rfl (fun _ _ h => h) fun a w hS hE => OpTo.call #[.int .u64 121665] rfl Tryd.func34 (by kernel_rfl) (by kernel_rfl) (args1 ..) ((rnum_v 121665 (by decide) w).mono fun _ _ h => Gives.toW 115 rfl (fun _ _ h => h) h)) ?_
    refine FStepsX.cons rfl (FStepW.go 111 rfl rfl (fun _ _ h => h) fun a w hS hE => OpTo.call #[a.tmps.getD 115 undef] rfl Tryd.func35 (by kernel_rfl) (by kernel_rfl) (args1 ..) ((rneg_v (hE 115 (by kernel_rfl)) (by decide) w).mono fun _ _ h => Gives.toW 116 rfl (fun _ _ h => h) h)) ?_
    refine FStepsX.cons rfl (FStepW.go 111 rfl rfl (fun _ _ h => h) fun a w hS hE => OpTo.eqS (toS (mulF (DN) (121666))) (toS (negF (121665))) rfl (hE 114 (by kernel_rfl)) (hE 116 (by kernel_rfl)) ⟨dOfW.of 117 rfl (by rw [fx117]; rfl), Touch.refl _ _⟩) ?_
    refine FStepsX.cons rfl (FStepW.plain rfl fun a w hS hE => OpTo.pick true rfl (hE 111 (by kernel_rfl)) ⟨dOfW.of 118 rfl (hE 117 (by kernel_rfl)), Touch.refl _ _⟩) ?_
    refine FStepsX.cons rfl (FStepW.plain rfl fun a w hS hE => OpTo.assign rfl ⟨dOfW.of 0 rfl (hE 118 (by kernel_rfl)), Touch.refl _ _⟩) ?_
    exact FStepsX.nil
  intro f w11 hS hF hA
  obtain ⟨h0, -⟩ := hF
  have e0 : f 0 = .bool true := h0
  clear h0
  clear hA
  replace B1 := Lib.hid (B1.out.touch hS notin_nil)
  replace B2 := Lib.hid (B2.out.touch hS notin_nil)
  replace B4 := Lib.hid (B4.out.touch hS notin_nil)
  replace B6 := Lib.hid (B6.out.touch hS notin_nil)
  replace B8 := Lib.hid (B8.out.touch hS notin_nil)
  replace HT := Lib.hid (HT.out.trans hS)
  clear hS
  simp only [setAll, List.setIfInBounds_toArray, List.set_cons_zero, List.set_cons_succ, e0]
  show wpList _ _ _ [] _ _
  refine wpList_nil ?_
  clear e0
  go_wp2_with fail
  go_ret
  exact ⟨_, rfl, rfl, HT.out⟩
end Go.Proofs.YtbgpgbfiadhddaaDoor
