/- syngraphlaw06.PointBytes: the walk. -/
import Derived.Test.YtbgpgbfiadhddaaPm24
namespace Go.Proofs.Ytbgpgbfiadhddaa
open Go Go.RowKit
set_option maxRecDepth 100000 in
set_option maxHeartbeats 4000000 in
theorem pbytes_walk (s : ByteArray) (w : World) : Calls Try.prog 3 #[.string s] w fun e w' => e = .returned (.bool true) ∧ Touch [] w w' := by
  by_cases hok : decOK s
  case pos =>
    have HE := Lib.hid (enc_dec hok)
    have HC := Lib.hid (decC_yes hok)
    clear hok
    go_enter Try.func3, Try.ntmps3
    go_upto_region 0 with fail
    refine wp_region_list ?_
    refine wpList_run (v := .bool false) rfl (exec_assignV rfl rfl) ?_
    refine wpList_nil ?_
    simp only [Act.put, List.setIfInBounds_toArray, List.set_cons_zero, List.set_cons_succ]
    have HT := Lib.hid (Touch.refl [] w)
    go_upto_region 1 with fail
    refine wp_region_list (wpList_flowP 5 (lookW [(0, pu (isS (s))), (7, pu (Tup (PtV (decP (s))) (.int .i64 (decC (s))))), (8, pu (isS (s))), (9, pu (Tup (PtV (decP (s))) (.int .i64 (decC (s))))), (10, pu (PtV (decP (s)))), (11, pu (isV (.int .i64 (decC (s)))))]) [0] [8, 9, 7, 10, 11] [10, 11] (by kernel_rfl) (by kernel_rfl) (by kernel_rfl) ⟨rfl, trivial⟩ ?_ ?_)
    · refine FStepsW.cons (FStepW.plain rfl fun a w hS hE => OpTo.move rfl ⟨dOfW.of 8 rfl (hE 0 (by kernel_rfl)), Touch.refl _ _⟩) ?_
      refine FStepsW.cons (FStepW.plain rfl fun a w hS hE => OpTo.call #[a.tmps.getD 8 undef] rfl Try.func9 (by kernel_rfl) (by kernel_rfl) (args1 ..) ((pdec_v (hE 8 (by kernel_rfl)) w).mono fun _ _ h => Gives.toW 9 rfl (fun _ _ h => h) h)) ?_
      refine FStepsW.cons (FStepW.plain rfl fun a w hS hE => OpTo.move rfl ⟨dOfW.of 7 rfl (hE 9 (by kernel_rfl)), Touch.refl _ _⟩) ?_
      refine FStepsW.cons (FStepW.plain rfl fun a w hS hE => OpTo.ext0 10 _ rfl rfl (hE 7 (by kernel_rfl)) (fun _ h => h)) ?_
      refine FStepsW.cons (FStepW.plain rfl fun a w hS hE => OpTo.ext1 11 _ rfl rfl (hE 7 (by kernel_rfl)) rfl) ?_
      exact FStepsW.nil
    intro f w1 hS hF
    obtain ⟨h10, h11, -⟩ := hF
    obtain ⟨b10, l10, q10, e10⟩ := h10
    have P10 := Lib.hid q10
    clear q10
    have e11 : f 11 = .int .i64 (decC (s)) := h11
    clear h11
    replace HT := Lib.hid (HT.out.trans hS)
    clear hS
    simp only [setAll, List.setIfInBounds_toArray, List.set_cons_zero, List.set_cons_succ, e10, e11]
    show wpList _ _ _ [_, _, _] _ _
    refine wpList_run rfl (exec_alloc_pt rfl) ?_
    simp only [Act.put, List.setIfInBounds_toArray, List.set_cons_zero, List.set_cons_succ]
    obtain ⟨w2, g3, hW, eg3, b3, ht, hb3⟩ := start1 w1 28 (ptA false zl)
    rw [← hW]
    rw [← eg3]
    have B3 := Lib.hid b3
    have HB3 := Lib.hid (Nat.le_trans HT.out.size hb3)
    replace HT := Lib.hid (HT.out.trans ht)
    clear hW eg3 b3 ht hb3
    refine wpList_store_row rfl 28 (.tmp 3) (.tmp 10) rfl g3 (ptA b10 l10) rfl rfl 28 (ptA false zl) B3.out (by rw [ptA_size P10.out.len]; exact infoP) ((ptA_size zl_len).trans (ptA_size P10.out.len).symm) (ptA_one b10 l10) ?_
    refine wpList_run (v := .int .i64 (decC (s))) rfl (exec_assignV rfl rfl) ?_
    refine wpList_nil ?_
    simp only [Act.put, List.setIfInBounds_toArray, List.set_cons_zero, List.set_cons_succ]
    have B3' := (B3.out.setRow (ptA b10 l10))
    have HT' := (HT.out.setRowE (.inr HB3.out) (ptA b10 l10))
    obtain ⟨w3, hw3⟩ : ∃ w3, w3 = (w2.setRow g3 (ptA b10 l10)) := ⟨_, rfl⟩
    rw [← hw3] at HT' B3'
    rw [← hw3]
    clear hw3 HT B3
    have B3 := Lib.hid B3'
    clear B3'
    have HT := Lib.hid HT'
    clear HT'
    clear e10 e11
    go_upto_region 2 with fail
    refine wp_region_list (wpList_flowP 5 (lookW [(0, pu (isS (s))), (12, pu (Tup (RfV (decP (s))) (.int .i64 (decC (s))))), (13, pu (isS (s))), (14, pu (Tup (RfV (decP (s))) (.int .i64 (decC (s))))), (15, pu (RfV (decP (s)))), (16, pu (isV (.int .i64 (decC (s)))))]) [0] [13, 14, 12, 15, 16] [15, 16] (by kernel_rfl) (by kernel_rfl) (by kernel_rfl) ⟨rfl, trivial⟩ ?_ ?_)
    · refine FStepsW.cons (FStepW.plain rfl fun a w hS hE => OpTo.move rfl ⟨dOfW.of 13 rfl (hE 0 (by kernel_rfl)), Touch.refl _ _⟩) ?_
      refine FStepsW.cons (FStepW.plain rfl fun a w hS hE => OpTo.call #[a.tmps.getD 13 undef] rfl Try.func10 (by kernel_rfl) (by kernel_rfl) (args1 ..) ((rpdec_v (hE 13 (by kernel_rfl)) w).mono fun _ _ h => Gives.toW 14 rfl (fun _ _ h => h) h)) ?_
      refine FStepsW.cons (FStepW.plain rfl fun a w hS hE => OpTo.move rfl ⟨dOfW.of 12 rfl (hE 14 (by kernel_rfl)), Touch.refl _ _⟩) ?_
      refine FStepsW.cons (FStepW.plain rfl fun a w hS hE => OpTo.ext0 15 _ rfl rfl (hE 12 (by kernel_rfl)) (fun _ h => h)) ?_
      refine FStepsW.cons (FStepW.plain rfl fun a w hS hE => OpTo.ext1 16 _ rfl rfl (hE 12 (by kernel_rfl)) rfl) ?_
      exact FStepsW.nil
    intro f w4 hS hF
    obtain ⟨h15, h16, -⟩ := hF
    obtain ⟨X15, Y15, Z15, rr15, e15⟩ := h15
    have RR15 := Lib.hid rr15
    clear rr15
    have e16 : f 16 = .int .i64 (decC (s)) := h16
    clear h16
    replace B3 := Lib.hid (B3.out.touch hS notin_nil)
    replace HT := Lib.hid (HT.out.trans hS)
    clear hS
    simp only [setAll, List.setIfInBounds_toArray, List.set_cons_zero, List.set_cons_succ, e15, e16]
    show wpList _ _ _ [_, _, _] _ _
    refine wpList_run rfl (exec_alloc_rp rfl) ?_
    simp only [Act.put, List.setIfInBounds_toArray, List.set_cons_zero, List.set_cons_succ]
    obtain ⟨w5, g5, hW, eg5, b5, ht, hb5⟩ := start1 w4 33 #[.string ⟨#[]⟩, .string ⟨#[]⟩, .string ⟨#[]⟩]
    rw [← hW]
    rw [← eg5]
    have NE3_5 := Lib.hid (ne_new B3.out hb5)
    replace B3 := Lib.hid (B3.out.touch ht notin_nil)
    have B5 := Lib.hid b5
    have HB5 := Lib.hid (Nat.le_trans HT.out.size hb5)
    replace HT := Lib.hid (HT.out.trans ht)
    clear hW eg5 b5 ht hb5
    refine wpList_store_row rfl 33 (.tmp 5) (.tmp 15) rfl g5 #[.string (toS X15), .string (toS Y15), .string (toS Z15)] rfl rfl 33 #[.string ⟨#[]⟩, .string ⟨#[]⟩, .string ⟨#[]⟩] B5.out infoR rfl (rp_one ..) ?_
    refine wpList_run (v := .int .i64 (decC (s))) rfl (exec_assignV rfl rfl) ?_
    refine wpList_nil ?_
    simp only [Act.put, List.setIfInBounds_toArray, List.set_cons_zero, List.set_cons_succ]
    have B3' := (B3.out.frow NE3_5.out #[.string (toS X15), .string (toS Y15), .string (toS Z15)])
    have B5' := (B5.out.setRow #[.string (toS X15), .string (toS Y15), .string (toS Z15)])
    have HT' := (HT.out.setRowE (.inr HB5.out) #[.string (toS X15), .string (toS Y15), .string (toS Z15)])
    obtain ⟨w6, hw6⟩ : ∃ w6, w6 = (w5.setRow g5 #[.string (toS X15), .string (toS Y15), .string (toS Z15)]) := ⟨_, rfl⟩
    rw [← hw6] at HT' B3' B5'
    rw [← hw6]
    clear hw6 HT B3 B5
    have B3 := Lib.hid B3'
    clear B3'
    have B5 := Lib.hid B5'
    clear B5'
    have HT := Lib.hid HT'
    clear HT'
    clear e15 e16
    go_upto_region 3 with fail
    refine wp_region_flowX (lookW [(3, pu (isP (g3))), (4, pu (isV (.int .i64 (decC (s))))), (5, pu (isP (g5))), (6, pu (isV (.int .i64 (decC (s))))), (17, pu (isV (.int .i64 (decC (s))))), (18, pu (isV (.int .i64 (decC (s))))), (19, pu (isB false)), (20, pu (isB false)), (21, pu (PtV (decP (s)))), (22, pu (isS (encS (decP (s))))), (23, pu (RfV (decP (s)))), (24, pu (isS (encS (decP (s))))), (25, pu (isB false)), (26, pu (isB false))]) (by kernel_rfl) 10 [] (fun d _ _ _ _ h => by cases d <;> exact h) (by intro l hl; cases hl) [3, 4, 5, 6] [17, 18, 19, 20, 21, 22, 23, 24, 25, 26] [26] [] (by kernel_rfl) (by kernel_rfl) (by kernel_rfl) (by kernel_rfl) (by kernel_rfl) (by kernel_rfl) ⟨rfl, rfl, rfl, rfl, trivial⟩ ?_ ?_
    · refine FStepsX.cons rfl (FStepW.plain rfl fun a w hS hE => OpTo.move rfl ⟨dOfW.of 17 rfl (hE 4 (by kernel_rfl)), Touch.refl _ _⟩) ?_
      refine FStepsX.cons rfl (FStepW.plain rfl fun a w hS hE => OpTo.move rfl ⟨dOfW.of 18 rfl (hE 6 (by kernel_rfl)), Touch.refl _ _⟩) ?_
      refine FStepsX.cons rfl (FStepW.plain rfl fun a w hS hE => OpTo.neI (decC (s)) (decC (s)) rfl (hE 17 (by kernel_rfl)) (hE 18 (by kernel_rfl)) ⟨dOfW.of 19 rfl (by rw [(decide_eq_true rfl : decide (decC (s) = decC (s)) = true)]; rfl), Touch.refl _ _⟩) ?_
      refine FStepsX.cons rfl (FStepW.plain rfl fun a w hS hE => OpTo.move rfl ⟨dOfW.of 20 rfl (hE 19 (by kernel_rfl)), Touch.refl _ _⟩) ?_
      refine FStepsX.cons rfl (FStepW.go 20 rfl rfl (fun _ _ h => h) fun a w hS hE => OpTo.rdP 21 (.tmp 3) rfl rfl (g3) (hE 3 (by kernel_rfl)) (B3.out.touch hS notin_nil) P10.out (fun _ h => h)) ?_
      refine FStepsX.cons rfl (FStepW.go 20 rfl rfl (fun _ _ h => h) fun a w hS hE => OpTo.call #[a.tmps.getD 21 undef] rfl Try.func11 (by kernel_rfl) (by kernel_rfl) (args1 ..) ((penc_v (hE 21 (by kernel_rfl)) w).mono fun _ _ h => Gives.toW 22 rfl (fun _ _ h => h) h)) ?_
      refine FStepsX.cons rfl (FStepW.go 20 rfl rfl (fun _ _ h => h) fun a w hS hE => OpTo.rdR 23 (.tmp 5) rfl rfl (g5) (hE 5 (by kernel_rfl)) (B5.out.touch hS notin_nil) RR15.out (fun _ h => h)) ?_
      refine FStepsX.cons rfl (FStepW.go 20 rfl rfl (fun _ _ h => h) fun a w hS hE => OpTo.call #[a.tmps.getD 23 undef] rfl Try.func12 (by kernel_rfl) (by kernel_rfl) (args1 ..) ((rpenc_v (hE 23 (by kernel_rfl)) w).mono fun _ _ h => Gives.toW 24 rfl (fun _ _ h => h) h)) ?_
      refine FStepsX.cons rfl (FStepW.go 20 rfl rfl (fun _ _ h => h) fun a w hS hE => OpTo.neS (encS (decP (s))) (encS (decP (s))) rfl (hE 22 (by kernel_rfl)) (hE 24 (by kernel_rfl)) ⟨dOfW.of 25 rfl (by rw [beq_self_eq_true]; rfl), Touch.refl _ _⟩) ?_
      refine FStepsX.cons rfl (FStepW.plain rfl fun a w hS hE => OpTo.pick false rfl (hE 20 (by kernel_rfl)) ⟨dOfW.of 26 rfl (hE 25 (by kernel_rfl)), Touch.refl _ _⟩) ?_
      exact FStepsX.nil
    intro f w7 hS hF hA
    obtain ⟨h26, -⟩ := hF
    have e26 : f 26 = .bool false := h26
    clear h26
    clear hA
    replace B3 := Lib.hid (B3.out.touch hS notin_nil)
    replace B5 := Lib.hid (B5.out.touch hS notin_nil)
    replace HT := Lib.hid (HT.out.trans hS)
    clear hS
    simp only [setAll, List.setIfInBounds_toArray, List.set_cons_zero, List.set_cons_succ, e26]
    show wpList _ _ _ [] _ _
    refine wpList_nil ?_
    clear e26
    go_upto_region 5 with fail
    refine wp_region_list (wpList_flowP 12 (lookW [(0, pu (isS (s))), (2, pu (isB true)), (3, pu (isP (g3))), (4, pu (isV (.int .i64 (decC (s))))), (27, pu (isV (.int .i64 (decC (s))))), (28, pu (isB false)), (29, pu (isB false)), (30, pu (PtV (decP (s)))), (31, pu (isS (encS (decP (s))))), (32, pu (isS (s))), (33, pu (isB true)), (34, pu (isB true)), (35, pu (isB true)), (36, pu (isB true)), (37, pu (isB true))]) [0, 3, 4] [27, 28, 29, 30, 31, 32, 33, 34, 35, 36, 37, 2] [2] (by kernel_rfl) (by kernel_rfl) (by kernel_rfl) ⟨rfl, rfl, rfl, trivial⟩ ?_ ?_)
    · refine FStepsW.cons (FStepW.plain rfl fun a w hS hE => OpTo.move rfl ⟨dOfW.of 27 rfl (hE 4 (by kernel_rfl)), Touch.refl _ _⟩) ?_
      refine FStepsW.cons (FStepW.plain rfl fun a w hS hE => OpTo.neI (decC (s)) (0) rfl (hE 27 (by kernel_rfl)) rfl ⟨dOfW.of 28 rfl (by rw [(decide_eq_true (by rw [HC.out]) : decide (decC (s) = 0) = true)]; rfl), Touch.refl _ _⟩) ?_
      refine FStepsW.cons (FStepW.plain rfl fun a w hS hE => OpTo.move rfl ⟨dOfW.of 29 rfl (hE 28 (by kernel_rfl)), Touch.refl _ _⟩) ?_
      refine FStepsW.cons (FStepW.go 29 rfl rfl (fun _ _ h => h) fun a w hS hE => OpTo.rdP 30 (.tmp 3) rfl rfl (g3) (hE 3 (by kernel_rfl)) (B3.out.touch hS notin_nil) P10.out (fun _ h => h)) ?_
      refine FStepsW.cons (FStepW.go 29 rfl rfl (fun _ _ h => h) fun a w hS hE => OpTo.call #[a.tmps.getD 30 undef] rfl Try.func11 (by kernel_rfl) (by kernel_rfl) (args1 ..) ((penc_v (hE 30 (by kernel_rfl)) w).mono fun _ _ h => Gives.toW 31 rfl (fun _ _ h => h) h)) ?_
      refine FStepsW.cons (FStepW.go 29 rfl rfl (fun _ _ h => h) fun a w hS hE => OpTo.move rfl ⟨dOfW.of 32 rfl (hE 0 (by kernel_rfl)), Touch.refl _ _⟩) ?_
      refine FStepsW.cons (FStepW.go 29 rfl rfl (fun _ _ h => h) fun a w hS hE => OpTo.eqS (encS (decP (s))) (s) rfl (hE 31 (by kernel_rfl)) (hE 32 (by kernel_rfl)) ⟨dOfW.of 33 rfl (by rw [(str_of HE.out)]; rfl), Touch.refl _ _⟩) ?_
      refine FStepsW.cons (FStepW.plain rfl fun a w hS hE => OpTo.pick false rfl (hE 29 (by kernel_rfl)) ⟨dOfW.of 34 rfl (hE 33 (by kernel_rfl)), Touch.refl _ _⟩) ?_
      refine FStepsW.cons (FStepW.plain rfl fun a w hS hE => OpTo.move rfl ⟨dOfW.of 35 rfl (hE 34 (by kernel_rfl)), Touch.refl _ _⟩) ?_
      refine FStepsW.cons (FStepW.go 35 rfl rfl (fun _ _ h => h) fun a w hS hE => OpTo.call #[] rfl Try.func13 (by kernel_rfl) (by kernel_rfl) (args0 ..) ((fixed_v w).mono fun _ _ h => Gives.toW 36 rfl (fun _ _ h => h) h)) ?_
      refine FStepsW.cons (FStepW.plain rfl fun a w hS hE => OpTo.pick true rfl (hE 35 (by kernel_rfl)) ⟨dOfW.of 37 rfl (hE 36 (by kernel_rfl)), Touch.refl _ _⟩) ?_
      refine FStepsW.cons (FStepW.plain rfl fun a w hS hE => OpTo.assign rfl ⟨dOfW.of 2 rfl (hE 37 (by kernel_rfl)), Touch.refl _ _⟩) ?_
      exact FStepsW.nil
    intro f w8 hS hF
    obtain ⟨h2, -⟩ := hF
    have e2 : f 2 = .bool true := h2
    clear h2
    replace B3 := Lib.hid (B3.out.touch hS notin_nil)
    replace B5 := Lib.hid (B5.out.touch hS notin_nil)
    replace HT := Lib.hid (HT.out.trans hS)
    clear hS
    simp only [setAll, List.setIfInBounds_toArray, List.set_cons_zero, List.set_cons_succ, e2]
    show wpList _ _ _ [] _ _
    refine wpList_nil ?_
    clear e2
    go_wp2_with fail
    go_ret
    exact ⟨rfl, HT.out⟩
  case neg =>
    have HC := Lib.hid (decC_no hok)
    clear hok
    go_enter Try.func3, Try.ntmps3
    go_upto_region 0 with fail
    refine wp_region_list ?_
    refine wpList_run (v := .bool false) rfl (exec_assignV rfl rfl) ?_
    refine wpList_nil ?_
    simp only [Act.put, List.setIfInBounds_toArray, List.set_cons_zero, List.set_cons_succ]
    have HT := Lib.hid (Touch.refl [] w)
    go_upto_region 1 with fail
    refine wp_region_list (wpList_flowP 5 (lookW [(0, pu (isS (s))), (7, pu (Tup (PtV (decP (s))) (.int .i64 (decC (s))))), (8, pu (isS (s))), (9, pu (Tup (PtV (decP (s))) (.int .i64 (decC (s))))), (10, pu (PtV (decP (s)))), (11, pu (isV (.int .i64 (decC (s)))))]) [0] [8, 9, 7, 10, 11] [10, 11] (by kernel_rfl) (by kernel_rfl) (by kernel_rfl) ⟨rfl, trivial⟩ ?_ ?_)
    · refine FStepsW.cons (FStepW.plain rfl fun a w hS hE => OpTo.move rfl ⟨dOfW.of 8 rfl (hE 0 (by kernel_rfl)), Touch.refl _ _⟩) ?_
      refine FStepsW.cons (FStepW.plain rfl fun a w hS hE => OpTo.call #[a.tmps.getD 8 undef] rfl Try.func9 (by kernel_rfl) (by kernel_rfl) (args1 ..) ((pdec_v (hE 8 (by kernel_rfl)) w).mono fun _ _ h => Gives.toW 9 rfl (fun _ _ h => h) h)) ?_
      refine FStepsW.cons (FStepW.plain rfl fun a w hS hE => OpTo.move rfl ⟨dOfW.of 7 rfl (hE 9 (by kernel_rfl)), Touch.refl _ _⟩) ?_
      refine FStepsW.cons (FStepW.plain rfl fun a w hS hE => OpTo.ext0 10 _ rfl rfl (hE 7 (by kernel_rfl)) (fun _ h => h)) ?_
      refine FStepsW.cons (FStepW.plain rfl fun a w hS hE => OpTo.ext1 11 _ rfl rfl (hE 7 (by kernel_rfl)) rfl) ?_
      exact FStepsW.nil
    intro f w1 hS hF
    obtain ⟨h10, h11, -⟩ := hF
    obtain ⟨b10, l10, q10, e10⟩ := h10
    have P10 := Lib.hid q10
    clear q10
    have e11 : f 11 = .int .i64 (decC (s)) := h11
    clear h11
    replace HT := Lib.hid (HT.out.trans hS)
    clear hS
    simp only [setAll, List.setIfInBounds_toArray, List.set_cons_zero, List.set_cons_succ, e10, e11]
    show wpList _ _ _ [_, _, _] _ _
    refine wpList_run rfl (exec_alloc_pt rfl) ?_
    simp only [Act.put, List.setIfInBounds_toArray, List.set_cons_zero, List.set_cons_succ]
    obtain ⟨w2, g3, hW, eg3, b3, ht, hb3⟩ := start1 w1 28 (ptA false zl)
    rw [← hW]
    rw [← eg3]
    have B3 := Lib.hid b3
    have HB3 := Lib.hid (Nat.le_trans HT.out.size hb3)
    replace HT := Lib.hid (HT.out.trans ht)
    clear hW eg3 b3 ht hb3
    refine wpList_store_row rfl 28 (.tmp 3) (.tmp 10) rfl g3 (ptA b10 l10) rfl rfl 28 (ptA false zl) B3.out (by rw [ptA_size P10.out.len]; exact infoP) ((ptA_size zl_len).trans (ptA_size P10.out.len).symm) (ptA_one b10 l10) ?_
    refine wpList_run (v := .int .i64 (decC (s))) rfl (exec_assignV rfl rfl) ?_
    refine wpList_nil ?_
    simp only [Act.put, List.setIfInBounds_toArray, List.set_cons_zero, List.set_cons_succ]
    have B3' := (B3.out.setRow (ptA b10 l10))
    have HT' := (HT.out.setRowE (.inr HB3.out) (ptA b10 l10))
    obtain ⟨w3, hw3⟩ : ∃ w3, w3 = (w2.setRow g3 (ptA b10 l10)) := ⟨_, rfl⟩
    rw [← hw3] at HT' B3'
    rw [← hw3]
    clear hw3 HT B3
    have B3 := Lib.hid B3'
    clear B3'
    have HT := Lib.hid HT'
    clear HT'
    clear e10 e11
    go_upto_region 2 with fail
    refine wp_region_list (wpList_flowP 5 (lookW [(0, pu (isS (s))), (12, pu (Tup (RfV (decP (s))) (.int .i64 (decC (s))))), (13, pu (isS (s))), (14, pu (Tup (RfV (decP (s))) (.int .i64 (decC (s))))), (15, pu (RfV (decP (s)))), (16, pu (isV (.int .i64 (decC (s)))))]) [0] [13, 14, 12, 15, 16] [15, 16] (by kernel_rfl) (by kernel_rfl) (by kernel_rfl) ⟨rfl, trivial⟩ ?_ ?_)
    · refine FStepsW.cons (FStepW.plain rfl fun a w hS hE => OpTo.move rfl ⟨dOfW.of 13 rfl (hE 0 (by kernel_rfl)), Touch.refl _ _⟩) ?_
      refine FStepsW.cons (FStepW.plain rfl fun a w hS hE => OpTo.call #[a.tmps.getD 13 undef] rfl Try.func10 (by kernel_rfl) (by kernel_rfl) (args1 ..) ((rpdec_v (hE 13 (by kernel_rfl)) w).mono fun _ _ h => Gives.toW 14 rfl (fun _ _ h => h) h)) ?_
      refine FStepsW.cons (FStepW.plain rfl fun a w hS hE => OpTo.move rfl ⟨dOfW.of 12 rfl (hE 14 (by kernel_rfl)), Touch.refl _ _⟩) ?_
      refine FStepsW.cons (FStepW.plain rfl fun a w hS hE => OpTo.ext0 15 _ rfl rfl (hE 12 (by kernel_rfl)) (fun _ h => h)) ?_
      refine FStepsW.cons (FStepW.plain rfl fun a w hS hE => OpTo.ext1 16 _ rfl rfl (hE 12 (by kernel_rfl)) rfl) ?_
      exact FStepsW.nil
    intro f w4 hS hF
    obtain ⟨h15, h16, -⟩ := hF
    obtain ⟨X15, Y15, Z15, rr15, e15⟩ := h15
    have RR15 := Lib.hid rr15
    clear rr15
    have e16 : f 16 = .int .i64 (decC (s)) := h16
    clear h16
    replace B3 := Lib.hid (B3.out.touch hS notin_nil)
    replace HT := Lib.hid (HT.out.trans hS)
    clear hS
    simp only [setAll, List.setIfInBounds_toArray, List.set_cons_zero, List.set_cons_succ, e15, e16]
    show wpList _ _ _ [_, _, _] _ _
    refine wpList_run rfl (exec_alloc_rp rfl) ?_
    simp only [Act.put, List.setIfInBounds_toArray, List.set_cons_zero, List.set_cons_succ]
    obtain ⟨w5, g5, hW, eg5, b5, ht, hb5⟩ := start1 w4 33 #[.string ⟨#[]⟩, .string ⟨#[]⟩, .string ⟨#[]⟩]
    rw [← hW]
    rw [← eg5]
    have NE3_5 := Lib.hid (ne_new B3.out hb5)
    replace B3 := Lib.hid (B3.out.touch ht notin_nil)
    have B5 := Lib.hid b5
    have HB5 := Lib.hid (Nat.le_trans HT.out.size hb5)
    replace HT := Lib.hid (HT.out.trans ht)
    clear hW eg5 b5 ht hb5
    refine wpList_store_row rfl 33 (.tmp 5) (.tmp 15) rfl g5 #[.string (toS X15), .string (toS Y15), .string (toS Z15)] rfl rfl 33 #[.string ⟨#[]⟩, .string ⟨#[]⟩, .string ⟨#[]⟩] B5.out infoR rfl (rp_one ..) ?_
    refine wpList_run (v := .int .i64 (decC (s))) rfl (exec_assignV rfl rfl) ?_
    refine wpList_nil ?_
    simp only [Act.put, List.setIfInBounds_toArray, List.set_cons_zero, List.set_cons_succ]
    have B3' := (B3.out.frow NE3_5.out #[.string (toS X15), .string (toS Y15), .string (toS Z15)])
    have B5' := (B5.out.setRow #[.string (toS X15), .string (toS Y15), .string (toS Z15)])
    have HT' := (HT.out.setRowE (.inr HB5.out) #[.string (toS X15), .string (toS Y15), .string (toS Z15)])
    obtain ⟨w6, hw6⟩ : ∃ w6, w6 = (w5.setRow g5 #[.string (toS X15), .string (toS Y15), .string (toS Z15)]) := ⟨_, rfl⟩
    rw [← hw6] at HT' B3' B5'
    rw [← hw6]
    clear hw6 HT B3 B5
    have B3 := Lib.hid B3'
    clear B3'
    have B5 := Lib.hid B5'
    clear B5'
    have HT := Lib.hid HT'
    clear HT'
    clear e15 e16
    go_upto_region 3 with fail
    refine wp_region_flowX (lookW [(3, pu (isP (g3))), (4, pu (isV (.int .i64 (decC (s))))), (5, pu (isP (g5))), (6, pu (isV (.int .i64 (decC (s))))), (17, pu (isV (.int .i64 (decC (s))))), (18, pu (isV (.int .i64 (decC (s))))), (19, pu (isB false)), (20, pu (isB false)), (21, pu (PtV (decP (s)))), (22, pu (isS (encS (decP (s))))), (23, pu (RfV (decP (s)))), (24, pu (isS (encS (decP (s))))), (25, pu (isB false)), (26, pu (isB false))]) (by kernel_rfl) 10 [] (fun d _ _ _ _ h => by cases d <;> exact h) (by intro l hl; cases hl) [3, 4, 5, 6] [17, 18, 19, 20, 21, 22, 23, 24, 25, 26] [26] [] (by kernel_rfl) (by kernel_rfl) (by kernel_rfl) (by kernel_rfl) (by kernel_rfl) (by kernel_rfl) ⟨rfl, rfl, rfl, rfl, trivial⟩ ?_ ?_
    · refine FStepsX.cons rfl (FStepW.plain rfl fun a w hS hE => OpTo.move rfl ⟨dOfW.of 17 rfl (hE 4 (by kernel_rfl)), Touch.refl _ _⟩) ?_
      refine FStepsX.cons rfl (FStepW.plain rfl fun a w hS hE => OpTo.move rfl ⟨dOfW.of 18 rfl (hE 6 (by kernel_rfl)), Touch.refl _ _⟩) ?_
      refine FStepsX.cons rfl (FStepW.plain rfl fun a w hS hE => OpTo.neI (decC (s)) (decC (s)) rfl (hE 17 (by kernel_rfl)) (hE 18 (by kernel_rfl)) ⟨dOfW.of 19 rfl (by rw [(decide_eq_true rfl : decide (decC (s) = decC (s)) = true)]; rfl), Touch.refl _ _⟩) ?_
      refine FStepsX.cons rfl (FStepW.plain rfl fun a w hS hE => OpTo.move rfl ⟨dOfW.of 20 rfl (hE 19 (by kernel_rfl)), Touch.refl _ _⟩) ?_
      refine FStepsX.cons rfl (FStepW.go 20 rfl rfl (fun _ _ h => h) fun a w hS hE => OpTo.rdP 21 (.tmp 3) rfl rfl (g3) (hE 3 (by kernel_rfl)) (B3.out.touch hS notin_nil) P10.out (fun _ h => h)) ?_
      refine FStepsX.cons rfl (FStepW.go 20 rfl rfl (fun _ _ h => h) fun a w hS hE => OpTo.call #[a.tmps.getD 21 undef] rfl Try.func11 (by kernel_rfl) (by kernel_rfl) (args1 ..) ((penc_v (hE 21 (by kernel_rfl)) w).mono fun _ _ h => Gives.toW 22 rfl (fun _ _ h => h) h)) ?_
      refine FStepsX.cons rfl (FStepW.go 20 rfl rfl (fun _ _ h => h) fun a w hS hE => OpTo.rdR 23 (.tmp 5) rfl rfl (g5) (hE 5 (by kernel_rfl)) (B5.out.touch hS notin_nil) RR15.out (fun _ h => h)) ?_
      refine FStepsX.cons rfl (FStepW.go 20 rfl rfl (fun _ _ h => h) fun a w hS hE => OpTo.call #[a.tmps.getD 23 undef] rfl Try.func12 (by kernel_rfl) (by kernel_rfl) (args1 ..) ((rpenc_v (hE 23 (by kernel_rfl)) w).mono fun _ _ h => Gives.toW 24 rfl (fun _ _ h => h) h)) ?_
      refine FStepsX.cons rfl (FStepW.go 20 rfl rfl (fun _ _ h => h) fun a w hS hE => OpTo.neS (encS (decP (s))) (encS (decP (s))) rfl (hE 22 (by kernel_rfl)) (hE 24 (by kernel_rfl)) ⟨dOfW.of 25 rfl (by rw [beq_self_eq_true]; rfl), Touch.refl _ _⟩) ?_
      refine FStepsX.cons rfl (FStepW.plain rfl fun a w hS hE => OpTo.pick false rfl (hE 20 (by kernel_rfl)) ⟨dOfW.of 26 rfl (hE 25 (by kernel_rfl)), Touch.refl _ _⟩) ?_
      exact FStepsX.nil
    intro f w7 hS hF hA
    obtain ⟨h26, -⟩ := hF
    have e26 : f 26 = .bool false := h26
    clear h26
    clear hA
    replace B3 := Lib.hid (B3.out.touch hS notin_nil)
    replace B5 := Lib.hid (B5.out.touch hS notin_nil)
    replace HT := Lib.hid (HT.out.trans hS)
    clear hS
    simp only [setAll, List.setIfInBounds_toArray, List.set_cons_zero, List.set_cons_succ, e26]
    show wpList _ _ _ [] _ _
    refine wpList_nil ?_
    clear e26
    go_upto_region 5 with fail
    refine wp_region_list (wpList_flowP 12 (lookW [(0, pu (isS (s))), (2, pu (isB true)), (3, pu (isP (g3))), (4, pu (isV (.int .i64 (decC (s))))), (27, pu (isV (.int .i64 (decC (s))))), (28, pu (isB true)), (29, pu (isB true)), (30, pu (isU)), (31, pu (isU)), (32, pu (isU)), (33, pu (isU)), (34, pu (isB true)), (35, pu (isB true)), (36, pu (isB true)), (37, pu (isB true))]) [0, 3, 4] [27, 28, 29, 30, 31, 32, 33, 34, 35, 36, 37, 2] [2] (by kernel_rfl) (by kernel_rfl) (by kernel_rfl) ⟨rfl, rfl, rfl, trivial⟩ ?_ ?_)
    · refine FStepsW.cons (FStepW.plain rfl fun a w hS hE => OpTo.move rfl ⟨dOfW.of 27 rfl (hE 4 (by kernel_rfl)), Touch.refl _ _⟩) ?_
      refine FStepsW.cons (FStepW.plain rfl fun a w hS hE => OpTo.neI (decC (s)) (0) rfl (hE 27 (by kernel_rfl)) rfl ⟨dOfW.of 28 rfl (by rw [(decide_eq_false (by rw [HC.out]; decide) : decide (decC (s) = 0) = false)]; rfl), Touch.refl _ _⟩) ?_
      refine FStepsW.cons (FStepW.plain rfl fun a w hS hE => OpTo.move rfl ⟨dOfW.of 29 rfl (hE 28 (by kernel_rfl)), Touch.refl _ _⟩) ?_
      refine FStepsW.cons (FStepW.no 29 rfl rfl (fun _ _ h => h) (fun _ => dOfW.of 30 rfl rfl)) ?_
      refine FStepsW.cons (FStepW.no 29 rfl rfl (fun _ _ h => h) (fun _ => dOfW.of 31 rfl rfl)) ?_
      refine FStepsW.cons (FStepW.no 29 rfl rfl (fun _ _ h => h) (fun _ => dOfW.of 32 rfl rfl)) ?_
      refine FStepsW.cons (FStepW.no 29 rfl rfl (fun _ _ h => h) (fun _ => dOfW.of 33 rfl rfl)) ?_
      refine FStepsW.cons (FStepW.plain rfl fun a w hS hE => OpTo.pick true rfl (hE 29 (by kernel_rfl)) ⟨dOfW.of 34 rfl (Eq.refl (Value.bool true)), Touch.refl _ _⟩) ?_
      refine FStepsW.cons (FStepW.plain rfl fun a w hS hE => OpTo.move rfl ⟨dOfW.of 35 rfl (hE 34 (by kernel_rfl)), Touch.refl _ _⟩) ?_
      refine FStepsW.cons (FStepW.go 35 rfl rfl (fun _ _ h => h) fun a w hS hE => OpTo.call #[] rfl Try.func13 (by kernel_rfl) (by kernel_rfl) (args0 ..) ((fixed_v w).mono fun _ _ h => Gives.toW 36 rfl (fun _ _ h => h) h)) ?_
      refine FStepsW.cons (FStepW.plain rfl fun a w hS hE => OpTo.pick true rfl (hE 35 (by kernel_rfl)) ⟨dOfW.of 37 rfl (hE 36 (by kernel_rfl)), Touch.refl _ _⟩) ?_
      refine FStepsW.cons (FStepW.plain rfl fun a w hS hE => OpTo.assign rfl ⟨dOfW.of 2 rfl (hE 37 (by kernel_rfl)), Touch.refl _ _⟩) ?_
      exact FStepsW.nil
    intro f w8 hS hF
    obtain ⟨h2, -⟩ := hF
    have e2 : f 2 = .bool true := h2
    clear h2
    replace B3 := Lib.hid (B3.out.touch hS notin_nil)
    replace B5 := Lib.hid (B5.out.touch hS notin_nil)
    replace HT := Lib.hid (HT.out.trans hS)
    clear hS
    simp only [setAll, List.setIfInBounds_toArray, List.set_cons_zero, List.set_cons_succ, e2]
    show wpList _ _ _ [] _ _
    refine wpList_nil ?_
    clear e2
    go_wp2_with fail
    go_ret
    exact ⟨rfl, HT.out⟩
end Go.Proofs.Ytbgpgbfiadhddaa
