/- syngraphlaw06.PointGroup: the walk. -/
import Derived.Test.YtbgpgbfiadhddaaPm24
namespace Go.Proofs.Ytbgpgbfiadhddaa
open Go Go.RowKit
set_option maxRecDepth 100000 in
set_option maxHeartbeats 4000000 in
theorem pgroup_walk (s t u : ByteArray) (w : World) : Calls Try.prog 6 #[.string s, .string t, .string u] w fun e w' => e = .returned (.bool true) ∧ Touch [] w w' := by
  go_enter Try.func6, Try.ntmps6
  go_upto_region 0 with fail
  refine wp_region_list ?_
  refine wpList_run (v := .bool false) rfl (exec_assignV rfl rfl) ?_
  refine wpList_nil ?_
  simp only [Act.put, List.setIfInBounds_toArray, List.set_cons_zero, List.set_cons_succ]
  have HT := Lib.hid (Touch.refl [] w)
  go_upto_region 1 with fail
  refine wp_region_list (wpList_flowP 5 (lookW [(0, pu (isS (s))), (14, pu (SomV (someP (s)))), (15, pu (isS (s))), (16, pu (SomV (someP (s)))), (17, pu (PtV (someP (s)))), (18, pu (RfV (someP (s))))]) [0] [15, 16, 14, 17, 18] [17, 18] (by kernel_rfl) (by kernel_rfl) (by kernel_rfl) ⟨rfl, trivial⟩ ?_ ?_)
  · refine FStepsW.cons (FStepW.plain rfl fun a w hS hE => OpTo.move rfl ⟨dOfW.of 15 rfl (hE 0 (by kernel_rfl)), Touch.refl _ _⟩) ?_
    refine FStepsW.cons (FStepW.plain rfl fun a w hS hE => OpTo.call #[a.tmps.getD 15 undef] rfl Try.func14 (by kernel_rfl) (by kernel_rfl) (args1 ..) ((some_v (hE 15 (by kernel_rfl)) w).mono fun _ _ h => Gives.toW 16 rfl (fun _ _ h => h) h)) ?_
    refine FStepsW.cons (FStepW.plain rfl fun a w hS hE => OpTo.move rfl ⟨dOfW.of 14 rfl (hE 16 (by kernel_rfl)), Touch.refl _ _⟩) ?_
    refine FStepsW.cons (FStepW.plain rfl fun a w hS hE => OpTo.extS0 17 _ rfl rfl (hE 14 (by kernel_rfl)) (fun _ h => h)) ?_
    refine FStepsW.cons (FStepW.plain rfl fun a w hS hE => OpTo.extS1 18 _ rfl rfl (hE 14 (by kernel_rfl)) (fun _ h => h)) ?_
    exact FStepsW.nil
  intro f w1 hS hF
  obtain ⟨h17, h18, -⟩ := hF
  obtain ⟨b17, l17, q17, e17⟩ := h17
  have P17 := Lib.hid q17
  clear q17
  obtain ⟨X18, Y18, Z18, rr18, e18⟩ := h18
  have RR18 := Lib.hid rr18
  clear rr18
  replace HT := Lib.hid (HT.out.trans hS)
  clear hS
  simp only [setAll, List.setIfInBounds_toArray, List.set_cons_zero, List.set_cons_succ, e17, e18]
  show wpList _ _ _ [_, _, _, _] _ _
  refine wpList_run rfl (exec_alloc_pt rfl) ?_
  refine wpList_run rfl (exec_alloc_rp rfl) ?_
  simp only [Act.put, List.setIfInBounds_toArray, List.set_cons_zero, List.set_cons_succ]
  obtain ⟨w2, g7, g8, hW, eg7, eg8, b7, b8, ht, hb7, hb8, ne7_8⟩ := start2 w1 28 (ptA false zl) 33 #[.string ⟨#[]⟩, .string ⟨#[]⟩, .string ⟨#[]⟩]
  rw [← hW]
  rw [← eg8]
  rw [← eg7]
  have NE7_8 := Lib.hid ne7_8
  have B7 := Lib.hid b7
  have HB7 := Lib.hid (Nat.le_trans HT.out.size hb7)
  have B8 := Lib.hid b8
  have HB8 := Lib.hid (Nat.le_trans HT.out.size hb8)
  replace HT := Lib.hid (HT.out.trans ht)
  clear hW eg7 eg8 b7 b8 ht hb7 hb8 ne7_8
  refine wpList_store_row rfl 28 (.tmp 7) (.tmp 17) rfl g7 (ptA b17 l17) rfl rfl 28 (ptA false zl) B7.out (by rw [ptA_size P17.out.len]; exact infoP) ((ptA_size zl_len).trans (ptA_size P17.out.len).symm) (ptA_one b17 l17) ?_
  refine wpList_store_row rfl 33 (.tmp 8) (.tmp 18) rfl g8 #[.string (toS X18), .string (toS Y18), .string (toS Z18)] rfl rfl 33 #[.string ⟨#[]⟩, .string ⟨#[]⟩, .string ⟨#[]⟩] (B8.out.frow (Ne.symm NE7_8.out) (ptA b17 l17)) infoR rfl (rp_one ..) ?_
  refine wpList_nil ?_
  simp only [Act.put]
  have B7' := ((B7.out.setRow (ptA b17 l17)).frow NE7_8.out #[.string (toS X18), .string (toS Y18), .string (toS Z18)])
  have B8' := ((B8.out.frow (Ne.symm NE7_8.out) (ptA b17 l17)).setRow #[.string (toS X18), .string (toS Y18), .string (toS Z18)])
  have HT' := ((HT.out.setRowE (.inr HB7.out) (ptA b17 l17)).setRowE (.inr HB8.out) #[.string (toS X18), .string (toS Y18), .string (toS Z18)])
  obtain ⟨w3, hw3⟩ : ∃ w3, w3 = ((w2.setRow g7 (ptA b17 l17)).setRow g8 #[.string (toS X18), .string (toS Y18), .string (toS Z18)]) := ⟨_, rfl⟩
  rw [← hw3] at HT' B7' B8'
  rw [← hw3]
  clear hw3 HT B7 B8
  have B7 := Lib.hid B7'
  clear B7'
  have B8 := Lib.hid B8'
  clear B8'
  have HT := Lib.hid HT'
  clear HT'
  clear B8 HB8
  clear e17 e18
  go_upto_region 2 with fail
  refine wp_region_list (wpList_flowP 5 (lookW [(1, pu (isS (t))), (19, pu (SomV (someP (t)))), (20, pu (isS (t))), (21, pu (SomV (someP (t)))), (22, pu (PtV (someP (t)))), (23, pu (RfV (someP (t))))]) [1] [20, 21, 19, 22, 23] [22, 23] (by kernel_rfl) (by kernel_rfl) (by kernel_rfl) ⟨rfl, trivial⟩ ?_ ?_)
  · refine FStepsW.cons (FStepW.plain rfl fun a w hS hE => OpTo.move rfl ⟨dOfW.of 20 rfl (hE 1 (by kernel_rfl)), Touch.refl _ _⟩) ?_
    refine FStepsW.cons (FStepW.plain rfl fun a w hS hE => OpTo.call #[a.tmps.getD 20 undef] rfl Try.func14 (by kernel_rfl) (by kernel_rfl) (args1 ..) ((some_v (hE 20 (by kernel_rfl)) w).mono fun _ _ h => Gives.toW 21 rfl (fun _ _ h => h) h)) ?_
    refine FStepsW.cons (FStepW.plain rfl fun a w hS hE => OpTo.move rfl ⟨dOfW.of 19 rfl (hE 21 (by kernel_rfl)), Touch.refl _ _⟩) ?_
    refine FStepsW.cons (FStepW.plain rfl fun a w hS hE => OpTo.extS0 22 _ rfl rfl (hE 19 (by kernel_rfl)) (fun _ h => h)) ?_
    refine FStepsW.cons (FStepW.plain rfl fun a w hS hE => OpTo.extS1 23 _ rfl rfl (hE 19 (by kernel_rfl)) (fun _ h => h)) ?_
    exact FStepsW.nil
  intro f w4 hS hF
  obtain ⟨h22, h23, -⟩ := hF
  obtain ⟨b22, l22, q22, e22⟩ := h22
  have P22 := Lib.hid q22
  clear q22
  obtain ⟨X23, Y23, Z23, rr23, e23⟩ := h23
  have RR23 := Lib.hid rr23
  clear rr23
  replace B7 := Lib.hid (B7.out.touch hS notin_nil)
  replace HT := Lib.hid (HT.out.trans hS)
  clear hS
  simp only [setAll, List.setIfInBounds_toArray, List.set_cons_zero, List.set_cons_succ, e22, e23]
  show wpList _ _ _ [_, _, _, _] _ _
  refine wpList_run rfl (exec_alloc_pt rfl) ?_
  refine wpList_run rfl (exec_alloc_rp rfl) ?_
  simp only [Act.put, List.setIfInBounds_toArray, List.set_cons_zero, List.set_cons_succ]
  obtain ⟨w5, g9, g10, hW, eg9, eg10, b9, b10, ht, hb9, hb10, ne9_10⟩ := start2 w4 28 (ptA false zl) 33 #[.string ⟨#[]⟩, .string ⟨#[]⟩, .string ⟨#[]⟩]
  rw [← hW]
  rw [← eg10]
  rw [← eg9]
  have NE7_9 := Lib.hid (ne_new B7.out hb9)
  have NE7_10 := Lib.hid (ne_new B7.out hb10)
  have NE9_10 := Lib.hid ne9_10
  replace B7 := Lib.hid (B7.out.touch ht notin_nil)
  have B9 := Lib.hid b9
  have HB9 := Lib.hid (Nat.le_trans HT.out.size hb9)
  have B10 := Lib.hid b10
  have HB10 := Lib.hid (Nat.le_trans HT.out.size hb10)
  replace HT := Lib.hid (HT.out.trans ht)
  clear hW eg9 eg10 b9 b10 ht hb9 hb10 ne9_10
  refine wpList_store_row rfl 28 (.tmp 9) (.tmp 22) rfl g9 (ptA b22 l22) rfl rfl 28 (ptA false zl) B9.out (by rw [ptA_size P22.out.len]; exact infoP) ((ptA_size zl_len).trans (ptA_size P22.out.len).symm) (ptA_one b22 l22) ?_
  refine wpList_store_row rfl 33 (.tmp 10) (.tmp 23) rfl g10 #[.string (toS X23), .string (toS Y23), .string (toS Z23)] rfl rfl 33 #[.string ⟨#[]⟩, .string ⟨#[]⟩, .string ⟨#[]⟩] (B10.out.frow (Ne.symm NE9_10.out) (ptA b22 l22)) infoR rfl (rp_one ..) ?_
  refine wpList_nil ?_
  simp only [Act.put]
  have B7' := ((B7.out.frow NE7_9.out (ptA b22 l22)).frow NE7_10.out #[.string (toS X23), .string (toS Y23), .string (toS Z23)])
  have B9' := ((B9.out.setRow (ptA b22 l22)).frow NE9_10.out #[.string (toS X23), .string (toS Y23), .string (toS Z23)])
  have B10' := ((B10.out.frow (Ne.symm NE9_10.out) (ptA b22 l22)).setRow #[.string (toS X23), .string (toS Y23), .string (toS Z23)])
  have HT' := ((HT.out.setRowE (.inr HB9.out) (ptA b22 l22)).setRowE (.inr HB10.out) #[.string (toS X23), .string (toS Y23), .string (toS Z23)])
  obtain ⟨w6, hw6⟩ : ∃ w6, w6 = ((w5.setRow g9 (ptA b22 l22)).setRow g10 #[.string (toS X23), .string (toS Y23), .string (toS Z23)]) := ⟨_, rfl⟩
  rw [← hw6] at HT' B7' B9' B10'
  rw [← hw6]
  clear hw6 HT B7 B9 B10
  have B7 := Lib.hid B7'
  clear B7'
  have B9 := Lib.hid B9'
  clear B9'
  have B10 := Lib.hid B10'
  clear B10'
  have HT := Lib.hid HT'
  clear HT'
  clear B10 HB10
  clear e22 e23
  go_upto_region 3 with fail
  refine wp_region_list (wpList_flowP 5 (lookW [(2, pu (isS (u))), (24, pu (SomV (someP (u)))), (25, pu (isS (u))), (26, pu (SomV (someP (u)))), (27, pu (PtV (someP (u)))), (28, pu (RfV (someP (u))))]) [2] [25, 26, 24, 27, 28] [27, 28] (by kernel_rfl) (by kernel_rfl) (by kernel_rfl) ⟨rfl, trivial⟩ ?_ ?_)
  · refine FStepsW.cons (FStepW.plain rfl fun a w hS hE => OpTo.move rfl ⟨dOfW.of 25 rfl (hE 2 (by kernel_rfl)), Touch.refl _ _⟩) ?_
    refine FStepsW.cons (FStepW.plain rfl fun a w hS hE => OpTo.call #[a.tmps.getD 25 undef] rfl Try.func14 (by kernel_rfl) (by kernel_rfl) (args1 ..) ((some_v (hE 25 (by kernel_rfl)) w).mono fun _ _ h => Gives.toW 26 rfl (fun _ _ h => h) h)) ?_
    refine FStepsW.cons (FStepW.plain rfl fun a w hS hE => OpTo.move rfl ⟨dOfW.of 24 rfl (hE 26 (by kernel_rfl)), Touch.refl _ _⟩) ?_
    refine FStepsW.cons (FStepW.plain rfl fun a w hS hE => OpTo.extS0 27 _ rfl rfl (hE 24 (by kernel_rfl)) (fun _ h => h)) ?_
    refine FStepsW.cons (FStepW.plain rfl fun a w hS hE => OpTo.extS1 28 _ rfl rfl (hE 24 (by kernel_rfl)) (fun _ h => h)) ?_
    exact FStepsW.nil
  intro f w7 hS hF
  obtain ⟨h27, h28, -⟩ := hF
  obtain ⟨b27, l27, q27, e27⟩ := h27
  have P27 := Lib.hid q27
  clear q27
  obtain ⟨X28, Y28, Z28, rr28, e28⟩ := h28
  have RR28 := Lib.hid rr28
  clear rr28
  replace B7 := Lib.hid (B7.out.touch hS notin_nil)
  replace B9 := Lib.hid (B9.out.touch hS notin_nil)
  replace HT := Lib.hid (HT.out.trans hS)
  clear hS
  simp only [setAll, List.setIfInBounds_toArray, List.set_cons_zero, List.set_cons_succ, e27, e28]
  show wpList _ _ _ [_, _, _, _] _ _
  refine wpList_run rfl (exec_alloc_pt rfl) ?_
  refine wpList_run rfl (exec_alloc_rp rfl) ?_
  simp only [Act.put, List.setIfInBounds_toArray, List.set_cons_zero, List.set_cons_succ]
  obtain ⟨w8, g11, g12, hW, eg11, eg12, b11, b12, ht, hb11, hb12, ne11_12⟩ := start2 w7 28 (ptA false zl) 33 #[.string ⟨#[]⟩, .string ⟨#[]⟩, .string ⟨#[]⟩]
  rw [← hW]
  rw [← eg12]
  rw [← eg11]
  have NE7_11 := Lib.hid (ne_new B7.out hb11)
  have NE9_11 := Lib.hid (ne_new B9.out hb11)
  have NE7_12 := Lib.hid (ne_new B7.out hb12)
  have NE9_12 := Lib.hid (ne_new B9.out hb12)
  have NE11_12 := Lib.hid ne11_12
  replace B7 := Lib.hid (B7.out.touch ht notin_nil)
  replace B9 := Lib.hid (B9.out.touch ht notin_nil)
  have B11 := Lib.hid b11
  have HB11 := Lib.hid (Nat.le_trans HT.out.size hb11)
  have B12 := Lib.hid b12
  have HB12 := Lib.hid (Nat.le_trans HT.out.size hb12)
  replace HT := Lib.hid (HT.out.trans ht)
  clear hW eg11 eg12 b11 b12 ht hb11 hb12 ne11_12
  refine wpList_store_row rfl 28 (.tmp 11) (.tmp 27) rfl g11 (ptA b27 l27) rfl rfl 28 (ptA false zl) B11.out (by rw [ptA_size P27.out.len]; exact infoP) ((ptA_size zl_len).trans (ptA_size P27.out.len).symm) (ptA_one b27 l27) ?_
  refine wpList_store_row rfl 33 (.tmp 12) (.tmp 28) rfl g12 #[.string (toS X28), .string (toS Y28), .string (toS Z28)] rfl rfl 33 #[.string ⟨#[]⟩, .string ⟨#[]⟩, .string ⟨#[]⟩] (B12.out.frow (Ne.symm NE11_12.out) (ptA b27 l27)) infoR rfl (rp_one ..) ?_
  refine wpList_nil ?_
  simp only [Act.put]
  have B7' := ((B7.out.frow NE7_11.out (ptA b27 l27)).frow NE7_12.out #[.string (toS X28), .string (toS Y28), .string (toS Z28)])
  have B9' := ((B9.out.frow NE9_11.out (ptA b27 l27)).frow NE9_12.out #[.string (toS X28), .string (toS Y28), .string (toS Z28)])
  have B11' := ((B11.out.setRow (ptA b27 l27)).frow NE11_12.out #[.string (toS X28), .string (toS Y28), .string (toS Z28)])
  have B12' := ((B12.out.frow (Ne.symm NE11_12.out) (ptA b27 l27)).setRow #[.string (toS X28), .string (toS Y28), .string (toS Z28)])
  have HT' := ((HT.out.setRowE (.inr HB11.out) (ptA b27 l27)).setRowE (.inr HB12.out) #[.string (toS X28), .string (toS Y28), .string (toS Z28)])
  obtain ⟨w9, hw9⟩ : ∃ w9, w9 = ((w8.setRow g11 (ptA b27 l27)).setRow g12 #[.string (toS X28), .string (toS Y28), .string (toS Z28)]) := ⟨_, rfl⟩
  rw [← hw9] at HT' B7' B9' B11' B12'
  rw [← hw9]
  clear hw9 HT B7 B9 B11 B12
  have B7 := Lib.hid B7'
  clear B7'
  have B9 := Lib.hid B9'
  clear B9'
  have B11 := Lib.hid B11'
  clear B11'
  have B12 := Lib.hid B12'
  clear B12'
  have HT := Lib.hid HT'
  clear HT'
  clear B12 HB12
  clear e27 e28
  go_upto_region 4 with fail
  refine wp_region_list (wpList_flowP 2 (lookW [(13, newS w9.heap.size 28 (ptA false zl)), (29, pu (PtV (pzero)))]) [] [29, 13] [29, 13] (by kernel_rfl) (by kernel_rfl) (by kernel_rfl) trivial ?_ ?_)
  · refine FStepsW.cons (FStepW.plain rfl fun a w hS hE => OpTo.pureG (v := ptV false zl) 29 rfl (by unfold execOp; simp only [List.map_toArray, List.map_nil, Sem.run_bind, Sem.run_pure, run_build_pt0, Result.andThen_ok]) PtV.none) ?_
    refine FStepsW.cons (FStepW.plain rfl fun a w hS hE => OpTo.allocG 13 28 (ptA false zl) rfl hS (exec_alloc_pt rfl) rfl) ?_
    exact FStepsW.nil
  intro f w10 hS hF
  obtain ⟨h29, h13, -⟩ := hF
  obtain ⟨b29, l29, q29, e29⟩ := h29
  have P29 := Lib.hid q29
  clear q29
  obtain ⟨g13, e13, z13, b13⟩ := h13
  have NE7_13 := Lib.hid (ne_new B7.out b13)
  have NE9_13 := Lib.hid (ne_new B9.out b13)
  have NE11_13 := Lib.hid (ne_new B11.out b13)
  replace B7 := Lib.hid (B7.out.touch hS notin_nil)
  replace B9 := Lib.hid (B9.out.touch hS notin_nil)
  replace B11 := Lib.hid (B11.out.touch hS notin_nil)
  have B13 := Lib.hid z13
  have HB13 := Lib.hid (Nat.le_trans HT.out.size b13)
  clear z13 b13
  replace HT := Lib.hid (HT.out.trans hS)
  clear hS
  simp only [setAll, List.setIfInBounds_toArray, List.set_cons_zero, List.set_cons_succ, e29, e13]
  show wpList _ _ _ [_] _ _
  refine wpList_store_row rfl 28 (.tmp 13) (.tmp 29) rfl g13 (ptA b29 l29) rfl rfl 28 (ptA false zl) B13.out (by rw [ptA_size P29.out.len]; exact infoP) ((ptA_size zl_len).trans (ptA_size P29.out.len).symm) (ptA_one b29 l29) ?_
  refine wpList_nil ?_
  simp only [Act.put]
  have B7' := (B7.out.frow NE7_13.out (ptA b29 l29))
  have B9' := (B9.out.frow NE9_13.out (ptA b29 l29))
  have B11' := (B11.out.frow NE11_13.out (ptA b29 l29))
  have B13' := (B13.out.setRow (ptA b29 l29))
  have HT' := (HT.out.setRowE (.inr HB13.out) (ptA b29 l29))
  obtain ⟨w11, hw11⟩ : ∃ w11, w11 = (w10.setRow g13 (ptA b29 l29)) := ⟨_, rfl⟩
  rw [← hw11] at HT' B7' B9' B11' B13'
  rw [← hw11]
  clear hw11 HT B7 B9 B11 B13
  have B7 := Lib.hid B7'
  clear B7'
  have B9 := Lib.hid B9'
  clear B9'
  have B11 := Lib.hid B11'
  clear B11'
  have B13 := Lib.hid B13'
  clear B13'
  have HT := Lib.hid HT'
  clear HT'
  clear e29 e13
  go_upto_region 5 with fail
  refine wp_region_flowX (lookW [(6, pu (isB true)), (7, pu (isP (g7))), (9, pu (isP (g9))), (11, pu (isP (g11))), (13, pu (isP (g13))), (30, pu (PtV (someP (s)))), (31, pu (PtV (someP (t)))), (32, pu (PtV (padd (someP (s)) (someP (t))))), (33, pu (PtV (someP (t)))), (34, pu (PtV (someP (s)))), (35, pu (PtV (padd (someP (t)) (someP (s))))), (36, pu (isB true)), (37, pu (isB true)), (38, pu (PtV (someP (s)))), (39, pu (PtV (someP (t)))), (40, pu (PtV (padd (someP (s)) (someP (t))))), (41, pu (PtV (someP (u)))), (42, pu (PtV (padd (padd (someP (s)) (someP (t))) (someP (u))))), (43, pu (PtV (someP (s)))), (44, pu (PtV (someP (t)))), (45, pu (PtV (someP (u)))), (46, pu (PtV (padd (someP (t)) (someP (u))))), (47, pu (PtV (padd (someP (s)) (padd (someP (t)) (someP (u)))))), (48, pu (isB true)), (49, pu (isB true)), (50, pu (isB true)), (51, pu (PtV (someP (s)))), (52, pu (PtV (someP (s)))), (53, pu (PtV (pneg (someP (s))))), (54, pu (PtV (padd (someP (s)) (pneg (someP (s)))))), (55, pu (PQv (0) (1) (1) (mulF (0) (1)))), (56, pu (isB true)), (57, pu (isB true)), (58, pu (isB true)), (59, pu (PtV (someP (s)))), (60, pu (PtV (pzero))), (61, pu (PtV (padd (someP (s)) (pzero)))), (62, pu (PtV (someP (s)))), (63, pu (isB true)), (64, pu (isB true)), (65, pu (isB true)), (66, pu (PtV (pzero))), (67, pu (PtV (someP (s)))), (68, pu (PtV (padd (pzero) (someP (s))))), (69, pu (PtV (someP (s)))), (70, pu (isB true)), (71, pu (isB true)), (72, pu (isB true)), (73, pu (PtV (pzero))), (74, pu (PQv (0) (1) (1) (mulF (0) (1)))), (75, pu (isB true)), (76, pu (isB true)), (77, pu (isB true)), (78, pu (PtV (pzero))), (79, pu (isS (encS (pzero)))), (80, pu (PQv (0) (1) (1) (mulF (0) (1)))), (81, pu (isS (encS (pzero)))), (82, pu (isB true)), (83, pu (isB true)), (84, pu (isB true)), (85, pu (PtV (someP (s)))), (86, pu (PtV (pneg (someP (s))))), (87, pu (PtV (pneg (pneg (someP (s)))))), (88, pu (PtV (someP (s)))), (89, pu (isB true)), (90, pu (isB true)), (91, pu (isB true)), (92, pu (isB true)), (93, pu (isB true))]) (by kernel_rfl) 65 [] (fun d _ _ _ _ h => by cases d <;> exact h) (by intro l hl; cases hl) [7, 9, 11, 13] [30, 31, 32, 33, 34, 35, 36, 37, 38, 39, 40, 41, 42, 43, 44, 45, 46, 47, 48, 49, 50, 51, 52, 53, 54, 55, 56, 57, 58, 59, 60, 61, 62, 63, 64, 65, 66, 67, 68, 69, 70, 71, 72, 73, 74, 75, 76, 77, 78, 79, 80, 81, 82, 83, 84, 85, 86, 87, 88, 89, 90, 91, 92, 93, 6] [6] [] (by kernel_rfl) (by kernel_rfl) (by kernel_rfl) (by kernel_rfl) (by kernel_rfl) (by kernel_rfl) ⟨rfl, rfl, rfl, rfl, trivial⟩ ?_ ?_
  · refine FStepsX.cons rfl (FStepW.plain rfl fun a w hS hE => OpTo.rdP 30 (.tmp 7) rfl rfl (g7) (hE 7 (by kernel_rfl)) (B7.out.touch hS notin_nil) P17.out (fun _ h => h)) ?_
    refine FStepsX.cons rfl (FStepW.plain rfl fun a w hS hE => OpTo.rdP 31 (.tmp 9) rfl rfl (g9) (hE 9 (by kernel_rfl)) (B9.out.touch hS notin_nil) P22.out (fun _ h => h)) ?_
    refine FStepsX.cons rfl (FStepW.plain rfl fun a w hS hE => OpTo.call #[a.tmps.getD 30 undef, a.tmps.getD 31 undef] rfl Try.func15 (by kernel_rfl) (by kernel_rfl) (args2 ..) ((padd_v (hE 30 (by kernel_rfl)) (hE 31 (by kernel_rfl)) w).mono fun _ _ h => Gives.toW 32 rfl (fun _ _ h => h) h)) ?_
    refine FStepsX.cons rfl (FStepW.plain rfl fun a w hS hE => OpTo.rdP 33 (.tmp 9) rfl rfl (g9) (hE 9 (by kernel_rfl)) (B9.out.touch hS notin_nil) P22.out (fun _ h => h)) ?_
    refine FStepsX.cons rfl (FStepW.plain rfl fun a w hS hE => OpTo.rdP 34 (.tmp 7) rfl rfl (g7) (hE 7 (by kernel_rfl)) (B7.out.touch hS notin_nil) P17.out (fun _ h => h)) ?_
    refine FStepsX.cons rfl (FStepW.plain rfl fun a w hS hE => OpTo.call #[a.tmps.getD 33 undef, a.tmps.getD 34 undef] rfl Try.func15 (by kernel_rfl) (by kernel_rfl) (args2 ..) ((padd_v (hE 33 (by kernel_rfl)) (hE 34 (by kernel_rfl)) w).mono fun _ _ h => Gives.toW 35 rfl (fun _ _ h => h) h)) ?_
    refine FStepsX.cons rfl (FStepW.plain rfl fun a w hS hE => OpTo.call #[a.tmps.getD 32 undef, a.tmps.getD 35 undef] rfl Try.func19 (by kernel_rfl) (by kernel_rfl) (args2 ..) ((psame_b (hE 32 (by kernel_rfl)) (hE 35 (by kernel_rfl)) (samePt_of (ed.comm _ _)) w).mono fun _ _ h => Gives.toW 36 rfl (fun _ _ h => h) h)) ?_
    refine FStepsX.cons rfl (FStepW.plain rfl fun a w hS hE => OpTo.move rfl ⟨dOfW.of 37 rfl (hE 36 (by kernel_rfl)), Touch.refl _ _⟩) ?_
    refine FStepsX.cons rfl (FStepW.go 37 rfl rfl (fun _ _ h => h) fun a w hS hE => OpTo.rdP 38 (.tmp 7) rfl rfl (g7) (hE 7 (by kernel_rfl)) (B7.out.touch hS notin_nil) P17.out (fun _ h => h)) ?_
    refine FStepsX.cons rfl (FStepW.go 37 rfl rfl (fun _ _ h => h) fun a w hS hE => OpTo.rdP 39 (.tmp 9) rfl rfl (g9) (hE 9 (by kernel_rfl)) (B9.out.touch hS notin_nil) P22.out (fun _ h => h)) ?_
    refine FStepsX.cons rfl (FStepW.go 37 rfl rfl (fun _ _ h => h) fun a w hS hE => OpTo.call #[a.tmps.getD 38 undef, a.tmps.getD 39 undef] rfl Try.func15 (by kernel_rfl) (by kernel_rfl) (args2 ..) ((padd_v (hE 38 (by kernel_rfl)) (hE 39 (by kernel_rfl)) w).mono fun _ _ h => Gives.toW 40 rfl (fun _ _ h => h) h)) ?_
    refine FStepsX.cons rfl (FStepW.go 37 rfl rfl (fun _ _ h => h) fun a w hS hE => OpTo.rdP 41 (.tmp 11) rfl rfl (g11) (hE 11 (by kernel_rfl)) (B11.out.touch hS notin_nil) P27.out (fun _ h => h)) ?_
    refine FStepsX.cons rfl (FStepW.go 37 rfl rfl (fun _ _ h => h) fun a w hS hE => OpTo.call #[a.tmps.getD 40 undef, a.tmps.getD 41 undef] rfl Try.func15 (by kernel_rfl) (by kernel_rfl) (args2 ..) ((padd_v (hE 40 (by kernel_rfl)) (hE 41 (by kernel_rfl)) w).mono fun _ _ h => Gives.toW 42 rfl (fun _ _ h => h) h)) ?_
    refine FStepsX.cons rfl (FStepW.go 37 rfl rfl (fun _ _ h => h) fun a w hS hE => OpTo.rdP 43 (.tmp 7) rfl rfl (g7) (hE 7 (by kernel_rfl)) (B7.out.touch hS notin_nil) P17.out (fun _ h => h)) ?_
    refine FStepsX.cons rfl (FStepW.go 37 rfl rfl (fun _ _ h => h) fun a w hS hE => OpTo.rdP 44 (.tmp 9) rfl rfl (g9) (hE 9 (by kernel_rfl)) (B9.out.touch hS notin_nil) P22.out (fun _ h => h)) ?_
    refine FStepsX.cons rfl (FStepW.go 37 rfl rfl (fun _ _ h => h) fun a w hS hE => OpTo.rdP 45 (.tmp 11) rfl rfl (g11) (hE 11 (by kernel_rfl)) (B11.out.touch hS notin_nil) P27.out (fun _ h => h)) ?_
    refine FStepsX.cons rfl (FStepW.go 37 rfl rfl (fun _ _ h => h) fun a w hS hE => OpTo.call #[a.tmps.getD 44 undef, a.tmps.getD 45 undef] rfl Try.func15 (by kernel_rfl) (by kernel_rfl) (args2 ..) ((padd_v (hE 44 (by kernel_rfl)) (hE 45 (by kernel_rfl)) w).mono fun _ _ h => Gives.toW 46 rfl (fun _ _ h => h) h)) ?_
    refine FStepsX.cons rfl (FStepW.go 37 rfl rfl (fun _ _ h => h) fun a w hS hE => OpTo.call #[a.tmps.getD 43 undef, a.tmps.getD 46 undef] rfl Try.func15 (by kernel_rfl) (by kernel_rfl) (args2 ..) ((padd_v (hE 43 (by kernel_rfl)) (hE 46 (by kernel_rfl)) w).mono fun _ _ h => Gives.toW 47 rfl (fun _ _ h => h) h)) ?_
    refine FStepsX.cons rfl (FStepW.go 37 rfl rfl (fun _ _ h => h) fun a w hS hE => OpTo.call #[a.tmps.getD 42 undef, a.tmps.getD 47 undef] rfl Try.func19 (by kernel_rfl) (by kernel_rfl) (args2 ..) ((psame_b (hE 42 (by kernel_rfl)) (hE 47 (by kernel_rfl)) (samePt_of (ed.assoc _ _ _)) w).mono fun _ _ h => Gives.toW 48 rfl (fun _ _ h => h) h)) ?_
    refine FStepsX.cons rfl (FStepW.plain rfl fun a w hS hE => OpTo.pick true rfl (hE 37 (by kernel_rfl)) ⟨dOfW.of 49 rfl (hE 48 (by kernel_rfl)), Touch.refl _ _⟩) ?_
    refine FStepsX.cons rfl (FStepW.plain rfl fun a w hS hE => OpTo.move rfl ⟨dOfW.of 50 rfl (hE 49 (by kernel_rfl)), Touch.refl _ _⟩) ?_
    refine FStepsX.cons rfl (FStepW.go 50 rfl rfl (fun _ _ h => h) fun a w hS hE => OpTo.rdP 51 (.tmp 7) rfl rfl (g7) (hE 7 (by kernel_rfl)) (B7.out.touch hS notin_nil) P17.out (fun _ h => h)) ?_
    refine FStepsX.cons rfl (FStepW.go 50 rfl rfl (fun _ _ h => h) fun a w hS hE => OpTo.rdP 52 (.tmp 7) rfl rfl (g7) (hE 7 (by kernel_rfl)) (B7.out.touch hS notin_nil) P17.out (fun _ h => h)) ?_
    refine FStepsX.cons rfl (FStepW.go 50 rfl rfl (fun _ _ h => h) fun a w hS hE => OpTo.call #[a.tmps.getD 52 undef] rfl Try.func17 (by kernel_rfl) (by kernel_rfl) (args1 ..) ((pneg_v (hE 52 (by kernel_rfl)) w).mono fun _ _ h => Gives.toW 53 rfl (fun _ _ h => h) h)) ?_
    refine FStepsX.cons rfl (FStepW.go 50 rfl rfl (fun _ _ h => h) fun a w hS hE => OpTo.call #[a.tmps.getD 51 undef, a.tmps.getD 53 undef] rfl Try.func15 (by kernel_rfl) (by kernel_rfl) (args2 ..) ((padd_v (hE 51 (by kernel_rfl)) (hE 53 (by kernel_rfl)) w).mono fun _ _ h => Gives.toW 54 rfl (fun _ _ h => h) h)) ?_
    refine FStepsX.cons rfl (FStepW.go 50 rfl rfl (fun _ _ h => h) fun a w hS hE => OpTo.call #[] rfl Try.func25 (by kernel_rfl) (by kernel_rfl) (args0 ..) ((zero_q w).mono fun _ _ h => Gives.toW 55 rfl (fun _ _ h => h) h)) ?_
    refine FStepsX.cons rfl (FStepW.go 50 rfl rfl (fun _ _ h => h) fun a w hS hE => OpTo.call #[a.tmps.getD 54 undef, a.tmps.getD 55 undef] rfl Try.func19 (by kernel_rfl) (by kernel_rfl) (args2 ..) ((psame_b (hE 54 (by kernel_rfl)) (PQv.pt rep_zero (hE 55 (by kernel_rfl))) (samePt_of (ed.add_neg _)) w).mono fun _ _ h => Gives.toW 56 rfl (fun _ _ h => h) h)) ?_
    refine FStepsX.cons rfl (FStepW.plain rfl fun a w hS hE => OpTo.pick true rfl (hE 50 (by kernel_rfl)) ⟨dOfW.of 57 rfl (hE 56 (by kernel_rfl)), Touch.refl _ _⟩) ?_
    refine FStepsX.cons rfl (FStepW.plain rfl fun a w hS hE => OpTo.move rfl ⟨dOfW.of 58 rfl (hE 57 (by kernel_rfl)), Touch.refl _ _⟩) ?_
    refine FStepsX.cons rfl (FStepW.go 58 rfl rfl (fun _ _ h => h) fun a w hS hE => OpTo.rdP 59 (.tmp 7) rfl rfl (g7) (hE 7 (by kernel_rfl)) (B7.out.touch hS notin_nil) P17.out (fun _ h => h)) ?_
    refine FStepsX.cons rfl (FStepW.go 58 rfl rfl (fun _ _ h => h) fun a w hS hE => OpTo.rdP 60 (.tmp 13) rfl rfl (g13) (hE 13 (by kernel_rfl)) (B13.out.touch hS notin_nil) P29.out (fun _ h => h)) ?_
    refine FStepsX.cons rfl (FStepW.go 58 rfl rfl (fun _ _ h => h) fun a w hS hE => OpTo.call #[a.tmps.getD 59 undef, a.tmps.getD 60 undef] rfl Try.func15 (by kernel_rfl) (by kernel_rfl) (args2 ..) ((padd_v (hE 59 (by kernel_rfl)) (hE 60 (by kernel_rfl)) w).mono fun _ _ h => Gives.toW 61 rfl (fun _ _ h => h) h)) ?_
    refine FStepsX.cons rfl (FStepW.go 58 rfl rfl (fun _ _ h => h) fun a w hS hE => OpTo.rdP 62 (.tmp 7) rfl rfl (g7) (hE 7 (by kernel_rfl)) (B7.out.touch hS notin_nil) P17.out (fun _ h => h)) ?_
    refine FStepsX.cons rfl (FStepW.go 58 rfl rfl (fun _ _ h => h) fun a w hS hE => OpTo.call #[a.tmps.getD 61 undef, a.tmps.getD 62 undef] rfl Try.func19 (by kernel_rfl) (by kernel_rfl) (args2 ..) ((psame_b (hE 61 (by kernel_rfl)) (hE 62 (by kernel_rfl)) (samePt_of (ed.add_zero _)) w).mono fun _ _ h => Gives.toW 63 rfl (fun _ _ h => h) h)) ?_
    refine FStepsX.cons rfl (FStepW.plain rfl fun a w hS hE => OpTo.pick true rfl (hE 58 (by kernel_rfl)) ⟨dOfW.of 64 rfl (hE 63 (by kernel_rfl)), Touch.refl _ _⟩) ?_
    refine FStepsX.cons rfl (FStepW.plain rfl fun a w hS hE => OpTo.move rfl ⟨dOfW.of 65 rfl (hE 64 (by kernel_rfl)), Touch.refl _ _⟩) ?_
    refine FStepsX.cons rfl (FStepW.go 65 rfl rfl (fun _ _ h => h) fun a w hS hE => OpTo.rdP 66 (.tmp 13) rfl rfl (g13) (hE 13 (by kernel_rfl)) (B13.out.touch hS notin_nil) P29.out (fun _ h => h)) ?_
    refine FStepsX.cons rfl (FStepW.go 65 rfl rfl (fun _ _ h => h) fun a w hS hE => OpTo.rdP 67 (.tmp 7) rfl rfl (g7) (hE 7 (by kernel_rfl)) (B7.out.touch hS notin_nil) P17.out (fun _ h => h)) ?_
    refine FStepsX.cons rfl (FStepW.go 65 rfl rfl (fun _ _ h => h) fun a w hS hE => OpTo.call #[a.tmps.getD 66 undef, a.tmps.getD 67 undef] rfl Try.func15 (by kernel_rfl) (by kernel_rfl) (args2 ..) ((padd_v (hE 66 (by kernel_rfl)) (hE 67 (by kernel_rfl)) w).mono fun _ _ h => Gives.toW 68 rfl (fun _ _ h => h) h)) ?_
    refine FStepsX.cons rfl (FStepW.go 65 rfl rfl (fun _ _ h => h) fun a w hS hE => OpTo.rdP 69 (.tmp 7) rfl rfl (g7) (hE 7 (by kernel_rfl)) (B7.out.touch hS notin_nil) P17.out (fun _ h => h)) ?_
    refine FStepsX.cons rfl (FStepW.go 65 rfl rfl (fun _ _ h => h) fun a w hS hE => OpTo.call #[a.tmps.getD 68 undef, a.tmps.getD 69 undef] rfl Try.func19 (by kernel_rfl) (by kernel_rfl) (args2 ..) ((psame_b (hE 68 (by kernel_rfl)) (hE 69 (by kernel_rfl)) (samePt_of (ed.zero_add _)) w).mono fun _ _ h => Gives.toW 70 rfl (fun _ _ h => h) h)) ?_
    refine FStepsX.cons rfl (FStepW.plain rfl fun a w hS hE => OpTo.pick true rfl (hE 65 (by kernel_rfl)) ⟨dOfW.of 71 rfl (hE 70 (by kernel_rfl)), Touch.refl _ _⟩) ?_
    refine FStepsX.cons rfl (FStepW.plain rfl fun a w hS hE => OpTo.move rfl ⟨dOfW.of 72 rfl (hE 71 (by kernel_rfl)), Touch.refl _ _⟩) ?_
    refine FStepsX.cons rfl (FStepW.go 72 rfl rfl (fun _ _ h => h) fun a w hS hE => OpTo.rdP 73 (.tmp 13) rfl rfl (g13) (hE 13 (by kernel_rfl)) (B13.out.touch hS notin_nil) P29.out (fun _ h => h)) ?_
    refine FStepsX.cons rfl (FStepW.go 72 rfl rfl (fun _ _ h => h) fun a w hS hE => OpTo.call #[] rfl Try.func25 (by kernel_rfl) (by kernel_rfl) (args0 ..) ((zero_q w).mono fun _ _ h => Gives.toW 74 rfl (fun _ _ h => h) h)) ?_
    refine FStepsX.cons rfl (FStepW.go 72 rfl rfl (fun _ _ h => h) fun a w hS hE => OpTo.call #[a.tmps.getD 73 undef, a.tmps.getD 74 undef] rfl Try.func19 (by kernel_rfl) (by kernel_rfl) (args2 ..) ((psame_b (hE 73 (by kernel_rfl)) (PQv.pt rep_zero (hE 74 (by kernel_rfl))) (samePt_of (rfl)) w).mono fun _ _ h => Gives.toW 75 rfl (fun _ _ h => h) h)) ?_
    refine FStepsX.cons rfl (FStepW.plain rfl fun a w hS hE => OpTo.pick true rfl (hE 72 (by kernel_rfl)) ⟨dOfW.of 76 rfl (hE 75 (by kernel_rfl)), Touch.refl _ _⟩) ?_
    refine FStepsX.cons rfl (FStepW.plain rfl fun a w hS hE => OpTo.move rfl ⟨dOfW.of 77 rfl (hE 76 (by kernel_rfl)), Touch.refl _ _⟩) ?_
    refine FStepsX.cons rfl (FStepW.go 77 rfl rfl (fun _ _ h => h) fun a w hS hE => OpTo.rdP 78 (.tmp 13) rfl rfl (g13) (hE 13 (by kernel_rfl)) (B13.out.touch hS notin_nil) P29.out (fun _ h => h)) ?_
    refine FStepsX.cons rfl (FStepW.go 77 rfl rfl (fun _ _ h => h) fun a w hS hE => OpTo.call #[a.tmps.getD 78 undef] rfl Try.func11 (by kernel_rfl) (by kernel_rfl) (args1 ..) ((penc_v (hE 78 (by kernel_rfl)) w).mono fun _ _ h => Gives.toW 79 rfl (fun _ _ h => h) h)) ?_
    refine FStepsX.cons rfl (FStepW.go 77 rfl rfl (fun _ _ h => h) fun a w hS hE => OpTo.call #[] rfl Try.func25 (by kernel_rfl) (by kernel_rfl) (args0 ..) ((zero_q w).mono fun _ _ h => Gives.toW 80 rfl (fun _ _ h => h) h)) ?_
    refine FStepsX.cons rfl (FStepW.go 77 rfl rfl (fun _ _ h => h) fun a w hS hE => OpTo.call #[a.tmps.getD 80 undef] rfl Try.func11 (by kernel_rfl) (by kernel_rfl) (args1 ..) ((penc_v (PQv.pt rep_zero (hE 80 (by kernel_rfl))) w).mono fun _ _ h => Gives.toW 81 rfl (fun _ _ h => h) h)) ?_
    refine FStepsX.cons rfl (FStepW.go 77 rfl rfl (fun _ _ h => h) fun a w hS hE => OpTo.eqS (encS (pzero)) (encS (pzero)) rfl (hE 79 (by kernel_rfl)) (hE 81 (by kernel_rfl)) ⟨dOfW.of 82 rfl (by rw [(beq_self_eq_true _)]; rfl), Touch.refl _ _⟩) ?_
    refine FStepsX.cons rfl (FStepW.plain rfl fun a w hS hE => OpTo.pick true rfl (hE 77 (by kernel_rfl)) ⟨dOfW.of 83 rfl (hE 82 (by kernel_rfl)), Touch.refl _ _⟩) ?_
    refine FStepsX.cons rfl (FStepW.plain rfl fun a w hS hE => OpTo.move rfl ⟨dOfW.of 84 rfl (hE 83 (by kernel_rfl)), Touch.refl _ _⟩) ?_
    refine FStepsX.cons rfl (FStepW.go 84 rfl rfl (fun _ _ h => h) fun a w hS hE => OpTo.rdP 85 (.tmp 7) rfl rfl (g7) (hE 7 (by kernel_rfl)) (B7.out.touch hS notin_nil) P17.out (fun _ h => h)) ?_
    refine FStepsX.cons rfl (FStepW.go 84 rfl rfl (fun _ _ h => h) fun a w hS hE => OpTo.call #[a.tmps.getD 85 undef] rfl Try.func17 (by kernel_rfl) (by kernel_rfl) (args1 ..) ((pneg_v (hE 85 (by kernel_rfl)) w).mono fun _ _ h => Gives.toW 86 rfl (fun _ _ h => h) h)) ?_
    refine FStepsX.cons rfl (FStepW.go 84 rfl rfl (fun _ _ h => h) fun a w hS hE => OpTo.call #[a.tmps.getD 86 undef] rfl Try.func17 (by kernel_rfl) (by kernel_rfl) (args1 ..) ((pneg_v (hE 86 (by kernel_rfl)) w).mono fun _ _ h => Gives.toW 87 rfl (fun _ _ h => h) h)) ?_
    refine FStepsX.cons rfl (FStepW.go 84 rfl rfl (fun _ _ h => h) fun a w hS hE => OpTo.rdP 88 (.tmp 7) rfl rfl (g7) (hE 7 (by kernel_rfl)) (B7.out.touch hS notin_nil) P17.out (fun _ h => h)) ?_
    refine FStepsX.cons rfl (FStepW.go 84 rfl rfl (fun _ _ h => h) fun a w hS hE => OpTo.call #[a.tmps.getD 87 undef, a.tmps.getD 88 undef] rfl Try.func19 (by kernel_rfl) (by kernel_rfl) (args2 ..) ((psame_b (hE 87 (by kernel_rfl)) (hE 88 (by kernel_rfl)) (samePt_of (pnegG_pnegG _)) w).mono fun _ _ h => Gives.toW 89 rfl (fun _ _ h => h) h)) ?_
    refine FStepsX.cons rfl (FStepW.plain rfl fun a w hS hE => OpTo.pick true rfl (hE 84 (by kernel_rfl)) ⟨dOfW.of 90 rfl (hE 89 (by kernel_rfl)), Touch.refl _ _⟩) ?_
    refine FStepsX.cons rfl (FStepW.plain rfl fun a w hS hE => OpTo.move rfl ⟨dOfW.of 91 rfl (hE 90 (by kernel_rfl)), Touch.refl _ _⟩) ?_
    refine FStepsX.cons rfl (FStepW.go 91 rfl rfl (fun _ _ h => h) fun a w hS hE => OpTo.call #[] rfl Try.func13 (by kernel_rfl) (by kernel_rfl) (args0 ..) ((fixed_v w).mono fun _ _ h => Gives.toW 92 rfl (fun _ _ h => h) h)) ?_
    refine FStepsX.cons rfl (FStepW.plain rfl fun a w hS hE => OpTo.pick true rfl (hE 91 (by kernel_rfl)) ⟨dOfW.of 93 rfl (hE 92 (by kernel_rfl)), Touch.refl _ _⟩) ?_
    refine FStepsX.cons rfl (FStepW.plain rfl fun a w hS hE => OpTo.assign rfl ⟨dOfW.of 6 rfl (hE 93 (by kernel_rfl)), Touch.refl _ _⟩) ?_
    exact FStepsX.nil
  intro f w12 hS hF hA
  obtain ⟨h6, -⟩ := hF
  have e6 : f 6 = .bool true := h6
  clear h6
  clear hA
  replace B7 := Lib.hid (B7.out.touch hS notin_nil)
  replace B9 := Lib.hid (B9.out.touch hS notin_nil)
  replace B11 := Lib.hid (B11.out.touch hS notin_nil)
  replace B13 := Lib.hid (B13.out.touch hS notin_nil)
  replace HT := Lib.hid (HT.out.trans hS)
  clear hS
  simp only [setAll, List.setIfInBounds_toArray, List.set_cons_zero, List.set_cons_succ, e6]
  show wpList _ _ _ [] _ _
  refine wpList_nil ?_
  clear e6
  go_wp2_with fail
  go_ret
  exact ⟨rfl, HT.out⟩
end Go.Proofs.Ytbgpgbfiadhddaa
