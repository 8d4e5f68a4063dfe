/- syngraphlaw06.PointAdds: the walk. -/
import Derived.Test.YtbgpgbfiadhddaaPm24
namespace Go.Proofs.Ytbgpgbfiadhddaa
open Go Go.RowKit
set_option maxRecDepth 100000 in
set_option maxHeartbeats 4000000 in
theorem padds_walk (s t : ByteArray) (w : World) : Calls Try.prog 4 #[.string s, .string t] w fun e w' => e = .returned (.bool true) ∧ Touch [] w w' := by
  go_enter Try.func4, Try.ntmps4
  go_upto_region 0 with fail
  refine wp_region_list ?_
  refine wpList_run (v := .bool false) rfl (exec_assignV rfl rfl) ?_
  refine wpList_nil ?_
  simp only [Act.put, List.setIfInBounds_toArray, List.set_cons_zero, List.set_cons_succ]
  have HT := Lib.hid (Touch.refl [] w)
  go_upto_region 1 with fail
  refine wp_region_list (wpList_flowP 5 (lookW [(0, pu (isS (s))), (9, pu (SomV (someP (s)))), (10, pu (isS (s))), (11, pu (SomV (someP (s)))), (12, pu (PtV (someP (s)))), (13, pu (RfV (someP (s))))]) [0] [10, 11, 9, 12, 13] [12, 13] (by kernel_rfl) (by kernel_rfl) (by kernel_rfl) ⟨rfl, trivial⟩ ?_ ?_)
  · refine FStepsW.cons (FStepW.plain rfl fun a w hS hE => OpTo.move rfl ⟨dOfW.of 10 rfl (hE 0 (by kernel_rfl)), Touch.refl _ _⟩) ?_
    refine FStepsW.cons (FStepW.plain rfl fun a w hS hE => OpTo.call #[a.tmps.getD 10 undef] rfl Try.func14 (by kernel_rfl) (by kernel_rfl) (args1 ..) ((some_v (hE 10 (by kernel_rfl)) w).mono fun _ _ h => Gives.toW 11 rfl (fun _ _ h => h) h)) ?_
    refine FStepsW.cons (FStepW.plain rfl fun a w hS hE => OpTo.move rfl ⟨dOfW.of 9 rfl (hE 11 (by kernel_rfl)), Touch.refl _ _⟩) ?_
    refine FStepsW.cons (FStepW.plain rfl fun a w hS hE => OpTo.extS0 12 _ rfl rfl (hE 9 (by kernel_rfl)) (fun _ h => h)) ?_
    refine FStepsW.cons (FStepW.plain rfl fun a w hS hE => OpTo.extS1 13 _ rfl rfl (hE 9 (by kernel_rfl)) (fun _ h => h)) ?_
    exact FStepsW.nil
  intro f w1 hS hF
  obtain ⟨h12, h13, -⟩ := hF
  obtain ⟨b12, l12, q12, e12⟩ := h12
  have P12 := Lib.hid q12
  clear q12
  obtain ⟨X13, Y13, Z13, rr13, e13⟩ := h13
  have RR13 := Lib.hid rr13
  clear rr13
  replace HT := Lib.hid (HT.out.trans hS)
  clear hS
  simp only [setAll, List.setIfInBounds_toArray, List.set_cons_zero, List.set_cons_succ, e12, e13]
  show wpList _ _ _ [_, _, _, _] _ _
  refine wpList_run rfl (exec_alloc_pt rfl) ?_
  refine wpList_run rfl (exec_alloc_rp rfl) ?_
  simp only [Act.put, List.setIfInBounds_toArray, List.set_cons_zero, List.set_cons_succ]
  obtain ⟨w2, g5, g6, hW, eg5, eg6, b5, b6, ht, hb5, hb6, ne5_6⟩ := start2 w1 28 (ptA false zl) 33 #[.string ⟨#[]⟩, .string ⟨#[]⟩, .string ⟨#[]⟩]
  rw [← hW]
  rw [← eg6]
  rw [← eg5]
  have NE5_6 := Lib.hid ne5_6
  have B5 := Lib.hid b5
  have HB5 := Lib.hid (Nat.le_trans HT.out.size hb5)
  have B6 := Lib.hid b6
  have HB6 := Lib.hid (Nat.le_trans HT.out.size hb6)
  replace HT := Lib.hid (HT.out.trans ht)
  clear hW eg5 eg6 b5 b6 ht hb5 hb6 ne5_6
  refine wpList_store_row rfl 28 (.tmp 5) (.tmp 12) rfl g5 (ptA b12 l12) rfl rfl 28 (ptA false zl) B5.out (by rw [ptA_size P12.out.len]; exact infoP) ((ptA_size zl_len).trans (ptA_size P12.out.len).symm) (ptA_one b12 l12) ?_
  refine wpList_store_row rfl 33 (.tmp 6) (.tmp 13) rfl g6 #[.string (toS X13), .string (toS Y13), .string (toS Z13)] rfl rfl 33 #[.string ⟨#[]⟩, .string ⟨#[]⟩, .string ⟨#[]⟩] (B6.out.frow (Ne.symm NE5_6.out) (ptA b12 l12)) infoR rfl (rp_one ..) ?_
  refine wpList_nil ?_
  simp only [Act.put]
  have B5' := ((B5.out.setRow (ptA b12 l12)).frow NE5_6.out #[.string (toS X13), .string (toS Y13), .string (toS Z13)])
  have B6' := ((B6.out.frow (Ne.symm NE5_6.out) (ptA b12 l12)).setRow #[.string (toS X13), .string (toS Y13), .string (toS Z13)])
  have HT' := ((HT.out.setRowE (.inr HB5.out) (ptA b12 l12)).setRowE (.inr HB6.out) #[.string (toS X13), .string (toS Y13), .string (toS Z13)])
  obtain ⟨w3, hw3⟩ : ∃ w3, w3 = ((w2.setRow g5 (ptA b12 l12)).setRow g6 #[.string (toS X13), .string (toS Y13), .string (toS Z13)]) := ⟨_, rfl⟩
  rw [← hw3] at HT' B5' B6'
  rw [← hw3]
  clear hw3 HT B5 B6
  have B5 := Lib.hid B5'
  clear B5'
  have B6 := Lib.hid B6'
  clear B6'
  have HT := Lib.hid HT'
  clear HT'
  clear e12 e13
  go_upto_region 2 with fail
  refine wp_region_list (wpList_flowP 5 (lookW [(1, pu (isS (t))), (14, pu (SomV (someP (t)))), (15, pu (isS (t))), (16, pu (SomV (someP (t)))), (17, pu (PtV (someP (t)))), (18, pu (RfV (someP (t))))]) [1] [15, 16, 14, 17, 18] [17, 18] (by kernel_rfl) (by kernel_rfl) (by kernel_rfl) ⟨rfl, trivial⟩ ?_ ?_)
  · refine FStepsW.cons (FStepW.plain rfl fun a w hS hE => OpTo.move rfl ⟨dOfW.of 15 rfl (hE 1 (by kernel_rfl)), Touch.refl _ _⟩) ?_
    refine FStepsW.cons (FStepW.plain rfl fun a w hS hE => OpTo.call #[a.tmps.getD 15 undef] rfl Try.func14 (by kernel_rfl) (by kernel_rfl) (args1 ..) ((some_v (hE 15 (by kernel_rfl)) w).mono fun _ _ h => Gives.toW 16 rfl (fun _ _ h => h) h)) ?_
    refine FStepsW.cons (FStepW.plain rfl fun a w hS hE => OpTo.move rfl ⟨dOfW.of 14 rfl (hE 16 (by kernel_rfl)), Touch.refl _ _⟩) ?_
    refine FStepsW.cons (FStepW.plain rfl fun a w hS hE => OpTo.extS0 17 _ rfl rfl (hE 14 (by kernel_rfl)) (fun _ h => h)) ?_
    refine FStepsW.cons (FStepW.plain rfl fun a w hS hE => OpTo.extS1 18 _ rfl rfl (hE 14 (by kernel_rfl)) (fun _ h => h)) ?_
    exact FStepsW.nil
  intro f w4 hS hF
  obtain ⟨h17, h18, -⟩ := hF
  obtain ⟨b17, l17, q17, e17⟩ := h17
  have P17 := Lib.hid q17
  clear q17
  obtain ⟨X18, Y18, Z18, rr18, e18⟩ := h18
  have RR18 := Lib.hid rr18
  clear rr18
  replace B5 := Lib.hid (B5.out.touch hS notin_nil)
  replace B6 := Lib.hid (B6.out.touch hS notin_nil)
  replace HT := Lib.hid (HT.out.trans hS)
  clear hS
  simp only [setAll, List.setIfInBounds_toArray, List.set_cons_zero, List.set_cons_succ, e17, e18]
  show wpList _ _ _ [_, _, _, _] _ _
  refine wpList_run rfl (exec_alloc_pt rfl) ?_
  refine wpList_run rfl (exec_alloc_rp rfl) ?_
  simp only [Act.put, List.setIfInBounds_toArray, List.set_cons_zero, List.set_cons_succ]
  obtain ⟨w5, g7, g8, hW, eg7, eg8, b7, b8, ht, hb7, hb8, ne7_8⟩ := start2 w4 28 (ptA false zl) 33 #[.string ⟨#[]⟩, .string ⟨#[]⟩, .string ⟨#[]⟩]
  rw [← hW]
  rw [← eg8]
  rw [← eg7]
  have NE5_7 := Lib.hid (ne_new B5.out hb7)
  have NE6_7 := Lib.hid (ne_new B6.out hb7)
  have NE5_8 := Lib.hid (ne_new B5.out hb8)
  have NE6_8 := Lib.hid (ne_new B6.out hb8)
  have NE7_8 := Lib.hid ne7_8
  replace B5 := Lib.hid (B5.out.touch ht notin_nil)
  replace B6 := Lib.hid (B6.out.touch ht notin_nil)
  have B7 := Lib.hid b7
  have HB7 := Lib.hid (Nat.le_trans HT.out.size hb7)
  have B8 := Lib.hid b8
  have HB8 := Lib.hid (Nat.le_trans HT.out.size hb8)
  replace HT := Lib.hid (HT.out.trans ht)
  clear hW eg7 eg8 b7 b8 ht hb7 hb8 ne7_8
  refine wpList_store_row rfl 28 (.tmp 7) (.tmp 17) rfl g7 (ptA b17 l17) rfl rfl 28 (ptA false zl) B7.out (by rw [ptA_size P17.out.len]; exact infoP) ((ptA_size zl_len).trans (ptA_size P17.out.len).symm) (ptA_one b17 l17) ?_
  refine wpList_store_row rfl 33 (.tmp 8) (.tmp 18) rfl g8 #[.string (toS X18), .string (toS Y18), .string (toS Z18)] rfl rfl 33 #[.string ⟨#[]⟩, .string ⟨#[]⟩, .string ⟨#[]⟩] (B8.out.frow (Ne.symm NE7_8.out) (ptA b17 l17)) infoR rfl (rp_one ..) ?_
  refine wpList_nil ?_
  simp only [Act.put]
  have B5' := ((B5.out.frow NE5_7.out (ptA b17 l17)).frow NE5_8.out #[.string (toS X18), .string (toS Y18), .string (toS Z18)])
  have B6' := ((B6.out.frow NE6_7.out (ptA b17 l17)).frow NE6_8.out #[.string (toS X18), .string (toS Y18), .string (toS Z18)])
  have B7' := ((B7.out.setRow (ptA b17 l17)).frow NE7_8.out #[.string (toS X18), .string (toS Y18), .string (toS Z18)])
  have B8' := ((B8.out.frow (Ne.symm NE7_8.out) (ptA b17 l17)).setRow #[.string (toS X18), .string (toS Y18), .string (toS Z18)])
  have HT' := ((HT.out.setRowE (.inr HB7.out) (ptA b17 l17)).setRowE (.inr HB8.out) #[.string (toS X18), .string (toS Y18), .string (toS Z18)])
  obtain ⟨w6, hw6⟩ : ∃ w6, w6 = ((w5.setRow g7 (ptA b17 l17)).setRow g8 #[.string (toS X18), .string (toS Y18), .string (toS Z18)]) := ⟨_, rfl⟩
  rw [← hw6] at HT' B5' B6' B7' B8'
  rw [← hw6]
  clear hw6 HT B5 B6 B7 B8
  have B5 := Lib.hid B5'
  clear B5'
  have B6 := Lib.hid B6'
  clear B6'
  have B7 := Lib.hid B7'
  clear B7'
  have B8 := Lib.hid B8'
  clear B8'
  have HT := Lib.hid HT'
  clear HT'
  clear e17 e18
  go_upto_region 3 with fail
  refine wp_region_flowX (lookW [(4, pu (isB true)), (5, pu (isP (g5))), (6, pu (isP (g6))), (7, pu (isP (g7))), (8, pu (isP (g8))), (19, pu (PtV (someP (s)))), (20, pu (PtV (someP (t)))), (21, pu (PtV (padd (someP (s)) (someP (t))))), (22, pu (isS (encS (padd (someP (s)) (someP (t)))))), (23, pu (RfV (someP (s)))), (24, pu (RfV (someP (t)))), (25, pu (RfV (padd (someP (s)) (someP (t))))), (26, pu (isS (encS (padd (someP (s)) (someP (t)))))), (27, pu (isB true)), (28, pu (isB true)), (29, pu (PtV (someP (s)))), (30, pu (PtV (pneg (someP (s))))), (31, pu (isS (encS (pneg (someP (s)))))), (32, pu (RfV (someP (s)))), (33, pu (RfV (pneg (someP (s))))), (34, pu (isS (encS (pneg (someP (s)))))), (35, pu (isB true)), (36, pu (isB true)), (37, pu (isB true)), (38, pu (PtV (someP (s)))), (39, pu (PtV (someP (t)))), (40, pu (isB (samePt (someP (s)) (someP (t))))), (41, pu (RfV (someP (s)))), (42, pu (RfV (someP (t)))), (43, pu (isB (samePt (someP (s)) (someP (t))))), (44, pu (isB true)), (45, pu (isB true)), (46, pu (isB true)), (47, pu (isB true)), (48, pu (isB true))]) (by kernel_rfl) 31 [] (fun d _ _ _ _ h => by cases d <;> exact h) (by intro l hl; cases hl) [5, 6, 7, 8] [19, 20, 21, 22, 23, 24, 25, 26, 27, 28, 29, 30, 31, 32, 33, 34, 35, 36, 37, 38, 39, 40, 41, 42, 43, 44, 45, 46, 47, 48, 4] [4] [] (by kernel_rfl) (by kernel_rfl) (by kernel_rfl) (by kernel_rfl) (by kernel_rfl) (by kernel_rfl) ⟨rfl, rfl, rfl, rfl, trivial⟩ ?_ ?_
  · refine FStepsX.cons rfl (FStepW.plain rfl fun a w hS hE => OpTo.rdP 19 (.tmp 5) rfl rfl (g5) (hE 5 (by kernel_rfl)) (B5.out.touch hS notin_nil) P12.out (fun _ h => h)) ?_
    refine FStepsX.cons rfl (FStepW.plain rfl fun a w hS hE => OpTo.rdP 20 (.tmp 7) rfl rfl (g7) (hE 7 (by kernel_rfl)) (B7.out.touch hS notin_nil) P17.out (fun _ h => h)) ?_
    refine FStepsX.cons rfl (FStepW.plain rfl fun a w hS hE => OpTo.call #[a.tmps.getD 19 undef, a.tmps.getD 20 undef] rfl Try.func15 (by kernel_rfl) (by kernel_rfl) (args2 ..) ((padd_v (hE 19 (by kernel_rfl)) (hE 20 (by kernel_rfl)) w).mono fun _ _ h => Gives.toW 21 rfl (fun _ _ h => h) h)) ?_
    refine FStepsX.cons rfl (FStepW.plain rfl fun a w hS hE => OpTo.call #[a.tmps.getD 21 undef] rfl Try.func11 (by kernel_rfl) (by kernel_rfl) (args1 ..) ((penc_v (hE 21 (by kernel_rfl)) w).mono fun _ _ h => Gives.toW 22 rfl (fun _ _ h => h) h)) ?_
    refine FStepsX.cons rfl (FStepW.plain rfl fun a w hS hE => OpTo.rdR 23 (.tmp 6) rfl rfl (g6) (hE 6 (by kernel_rfl)) (B6.out.touch hS notin_nil) RR13.out (fun _ h => h)) ?_
    refine FStepsX.cons rfl (FStepW.plain rfl fun a w hS hE => OpTo.rdR 24 (.tmp 8) rfl rfl (g8) (hE 8 (by kernel_rfl)) (B8.out.touch hS notin_nil) RR18.out (fun _ h => h)) ?_
    refine FStepsX.cons rfl (FStepW.plain rfl fun a w hS hE => OpTo.call #[a.tmps.getD 23 undef, a.tmps.getD 24 undef] rfl Try.func16 (by kernel_rfl) (by kernel_rfl) (args2 ..) ((rpadd_v (hE 23 (by kernel_rfl)) (hE 24 (by kernel_rfl)) w).mono fun _ _ h => Gives.toW 25 rfl (fun _ _ h => h) h)) ?_
    refine FStepsX.cons rfl (FStepW.plain rfl fun a w hS hE => OpTo.call #[a.tmps.getD 25 undef] rfl Try.func12 (by kernel_rfl) (by kernel_rfl) (args1 ..) ((rpenc_v (hE 25 (by kernel_rfl)) w).mono fun _ _ h => Gives.toW 26 rfl (fun _ _ h => h) h)) ?_
    refine FStepsX.cons rfl (FStepW.plain rfl fun a w hS hE => OpTo.eqS (encS (padd (someP (s)) (someP (t)))) (encS (padd (someP (s)) (someP (t)))) rfl (hE 22 (by kernel_rfl)) (hE 26 (by kernel_rfl)) ⟨dOfW.of 27 rfl (by rw [(beq_self_eq_true _)]; rfl), Touch.refl _ _⟩) ?_
    refine FStepsX.cons rfl (FStepW.plain rfl fun a w hS hE => OpTo.move rfl ⟨dOfW.of 28 rfl (hE 27 (by kernel_rfl)), Touch.refl _ _⟩) ?_
    refine FStepsX.cons rfl (FStepW.go 28 rfl rfl (fun _ _ h => h) fun a w hS hE => OpTo.rdP 29 (.tmp 5) rfl rfl (g5) (hE 5 (by kernel_rfl)) (B5.out.touch hS notin_nil) P12.out (fun _ h => h)) ?_
    refine FStepsX.cons rfl (FStepW.go 28 rfl rfl (fun _ _ h => h) fun a w hS hE => OpTo.call #[a.tmps.getD 29 undef] rfl Try.func17 (by kernel_rfl) (by kernel_rfl) (args1 ..) ((pneg_v (hE 29 (by kernel_rfl)) w).mono fun _ _ h => Gives.toW 30 rfl (fun _ _ h => h) h)) ?_
    refine FStepsX.cons rfl (FStepW.go 28 rfl rfl (fun _ _ h => h) fun a w hS hE => OpTo.call #[a.tmps.getD 30 undef] rfl Try.func11 (by kernel_rfl) (by kernel_rfl) (args1 ..) ((penc_v (hE 30 (by kernel_rfl)) w).mono fun _ _ h => Gives.toW 31 rfl (fun _ _ h => h) h)) ?_
    refine FStepsX.cons rfl (FStepW.go 28 rfl rfl (fun _ _ h => h) fun a w hS hE => OpTo.rdR 32 (.tmp 6) rfl rfl (g6) (hE 6 (by kernel_rfl)) (B6.out.touch hS notin_nil) RR13.out (fun _ h => h)) ?_
    refine FStepsX.cons rfl (FStepW.go 28 rfl rfl (fun _ _ h => h) fun a w hS hE => OpTo.call #[a.tmps.getD 32 undef] rfl Try.func18 (by kernel_rfl) (by kernel_rfl) (args1 ..) ((rpneg_v (hE 32 (by kernel_rfl)) w).mono fun _ _ h => Gives.toW 33 rfl (fun _ _ h => h) h)) ?_
    refine FStepsX.cons rfl (FStepW.go 28 rfl rfl (fun _ _ h => h) fun a w hS hE => OpTo.call #[a.tmps.getD 33 undef] rfl Try.func12 (by kernel_rfl) (by kernel_rfl) (args1 ..) ((rpenc_v (hE 33 (by kernel_rfl)) w).mono fun _ _ h => Gives.toW 34 rfl (fun _ _ h => h) h)) ?_
    refine FStepsX.cons rfl (FStepW.go 28 rfl rfl (fun _ _ h => h) fun a w hS hE => OpTo.eqS (encS (pneg (someP (s)))) (encS (pneg (someP (s)))) rfl (hE 31 (by kernel_rfl)) (hE 34 (by kernel_rfl)) ⟨dOfW.of 35 rfl (by rw [(beq_self_eq_true _)]; rfl), Touch.refl _ _⟩) ?_
    refine FStepsX.cons rfl (FStepW.plain rfl fun a w hS hE => OpTo.pick true rfl (hE 28 (by kernel_rfl)) ⟨dOfW.of 36 rfl (hE 35 (by kernel_rfl)), Touch.refl _ _⟩) ?_
    refine FStepsX.cons rfl (FStepW.plain rfl fun a w hS hE => OpTo.move rfl ⟨dOfW.of 37 rfl (hE 36 (by kernel_rfl)), Touch.refl _ _⟩) ?_
    refine FStepsX.cons rfl (FStepW.go 37 rfl rfl (fun _ _ h => h) fun a w hS hE => OpTo.rdP 38 (.tmp 5) rfl rfl (g5) (hE 5 (by kernel_rfl)) (B5.out.touch hS notin_nil) P12.out (fun _ h => h)) ?_
    refine FStepsX.cons rfl (FStepW.go 37 rfl rfl (fun _ _ h => h) fun a w hS hE => OpTo.rdP 39 (.tmp 7) rfl rfl (g7) (hE 7 (by kernel_rfl)) (B7.out.touch hS notin_nil) P17.out (fun _ h => h)) ?_
    refine FStepsX.cons rfl (FStepW.go 37 rfl rfl (fun _ _ h => h) fun a w hS hE => OpTo.call #[a.tmps.getD 38 undef, a.tmps.getD 39 undef] rfl Try.func19 (by kernel_rfl) (by kernel_rfl) (args2 ..) ((psame_v (hE 38 (by kernel_rfl)) (hE 39 (by kernel_rfl)) w).mono fun _ _ h => Gives.toW 40 rfl (fun _ _ h => h) h)) ?_
    refine FStepsX.cons rfl (FStepW.go 37 rfl rfl (fun _ _ h => h) fun a w hS hE => OpTo.rdR 41 (.tmp 6) rfl rfl (g6) (hE 6 (by kernel_rfl)) (B6.out.touch hS notin_nil) RR13.out (fun _ h => h)) ?_
    refine FStepsX.cons rfl (FStepW.go 37 rfl rfl (fun _ _ h => h) fun a w hS hE => OpTo.rdR 42 (.tmp 8) rfl rfl (g8) (hE 8 (by kernel_rfl)) (B8.out.touch hS notin_nil) RR18.out (fun _ h => h)) ?_
    refine FStepsX.cons rfl (FStepW.go 37 rfl rfl (fun _ _ h => h) fun a w hS hE => OpTo.call #[a.tmps.getD 41 undef, a.tmps.getD 42 undef] rfl Try.func20 (by kernel_rfl) (by kernel_rfl) (args2 ..) ((rpsame_v (hE 41 (by kernel_rfl)) (hE 42 (by kernel_rfl)) w).mono fun _ _ h => Gives.toW 43 rfl (fun _ _ h => h) h)) ?_
    refine FStepsX.cons rfl (FStepW.go 37 rfl rfl (fun _ _ h => h) fun a w hS hE => OpTo.eqB Try.underlying4 (samePt (someP (s)) (someP (t))) (samePt (someP (s)) (someP (t))) rfl (hE 40 (by kernel_rfl)) (hE 43 (by kernel_rfl)) ⟨dOfW.of 44 rfl (congrArg Value.bool (beq_self_eq_true _)), Touch.refl _ _⟩) ?_
    refine FStepsX.cons rfl (FStepW.plain rfl fun a w hS hE => OpTo.pick true rfl (hE 37 (by kernel_rfl)) ⟨dOfW.of 45 rfl (hE 44 (by kernel_rfl)), Touch.refl _ _⟩) ?_
    refine FStepsX.cons rfl (FStepW.plain rfl fun a w hS hE => OpTo.move rfl ⟨dOfW.of 46 rfl (hE 45 (by kernel_rfl)), Touch.refl _ _⟩) ?_
    refine FStepsX.cons rfl (FStepW.go 46 rfl rfl (fun _ _ h => h) fun a w hS hE => OpTo.call #[] rfl Try.func13 (by kernel_rfl) (by kernel_rfl) (args0 ..) ((fixed_v w).mono fun _ _ h => Gives.toW 47 rfl (fun _ _ h => h) h)) ?_
    refine FStepsX.cons rfl (FStepW.plain rfl fun a w hS hE => OpTo.pick true rfl (hE 46 (by kernel_rfl)) ⟨dOfW.of 48 rfl (hE 47 (by kernel_rfl)), Touch.refl _ _⟩) ?_
    refine FStepsX.cons rfl (FStepW.plain rfl fun a w hS hE => OpTo.assign rfl ⟨dOfW.of 4 rfl (hE 48 (by kernel_rfl)), Touch.refl _ _⟩) ?_
    exact FStepsX.nil
  intro f w7 hS hF hA
  obtain ⟨h4, -⟩ := hF
  have e4 : f 4 = .bool true := h4
  clear h4
  clear hA
  replace B5 := Lib.hid (B5.out.touch hS notin_nil)
  replace B6 := Lib.hid (B6.out.touch hS notin_nil)
  replace B7 := Lib.hid (B7.out.touch hS notin_nil)
  replace B8 := Lib.hid (B8.out.touch hS notin_nil)
  replace HT := Lib.hid (HT.out.trans hS)
  clear hS
  simp only [setAll, List.setIfInBounds_toArray, List.set_cons_zero, List.set_cons_succ, e4]
  show wpList _ _ _ [] _ _
  refine wpList_nil ?_
  clear e4
  go_wp2_with fail
  go_ret
  exact ⟨rfl, HT.out⟩
end Go.Proofs.Ytbgpgbfiadhddaa
