/- syngraphlaw06.PointMuls: the walk. -/
import Derived.Test.YtbgpgbfiadhddaaPm24
namespace Go.Proofs.Ytbgpgbfiadhddaa
open Go Go.RowKit
set_option maxRecDepth 100000 in
set_option maxHeartbeats 4000000 in
theorem pmuls_walk (s k : ByteArray) (hs : k.size ≤ 140737488355328) (w : World) : Calls Try.prog 5 #[.string s, .string k] w fun e w' => e = .returned (.bool true) ∧ Touch [] w w' := by
  have KS := Lib.hid hs
  clear hs
  go_enter Try.func5, Try.ntmps5
  go_upto_region 0 with fail
  refine wp_region_list ?_
  refine wpList_run (v := .bool false) rfl (exec_assignV rfl rfl) ?_
  refine wpList_nil ?_
  simp only [Act.put, List.setIfInBounds_toArray, List.set_cons_zero, List.set_cons_succ]
  have HT := Lib.hid (Touch.refl [] w)
  go_upto_region 1 with fail
  refine wp_region_list (wpList_flowP 5 (lookW [(0, pu (isS (s))), (7, pu (SomV (someP (s)))), (8, pu (isS (s))), (9, pu (SomV (someP (s)))), (10, pu (PtV (someP (s)))), (11, pu (RfV (someP (s))))]) [0] [8, 9, 7, 10, 11] [10, 11] (by kernel_rfl) (by kernel_rfl) (by kernel_rfl) ⟨rfl, trivial⟩ ?_ ?_)
  · refine FStepsW.cons (FStepW.plain rfl fun a w hS hE => OpTo.move rfl ⟨dOfW.of 8 rfl (hE 0 (by kernel_rfl)), Touch.refl _ _⟩) ?_
    refine FStepsW.cons (FStepW.plain rfl fun a w hS hE => OpTo.call #[a.tmps.getD 8 undef] rfl Try.func14 (by kernel_rfl) (by kernel_rfl) (args1 ..) ((some_v (hE 8 (by kernel_rfl)) w).mono fun _ _ h => Gives.toW 9 rfl (fun _ _ h => h) h)) ?_
    refine FStepsW.cons (FStepW.plain rfl fun a w hS hE => OpTo.move rfl ⟨dOfW.of 7 rfl (hE 9 (by kernel_rfl)), Touch.refl _ _⟩) ?_
    refine FStepsW.cons (FStepW.plain rfl fun a w hS hE => OpTo.extS0 10 _ rfl rfl (hE 7 (by kernel_rfl)) (fun _ h => h)) ?_
    refine FStepsW.cons (FStepW.plain rfl fun a w hS hE => OpTo.extS1 11 _ rfl rfl (hE 7 (by kernel_rfl)) (fun _ h => h)) ?_
    exact FStepsW.nil
  intro f w1 hS hF
  obtain ⟨h10, h11, -⟩ := hF
  obtain ⟨b10, l10, q10, e10⟩ := h10
  have P10 := Lib.hid q10
  clear q10
  obtain ⟨X11, Y11, Z11, rr11, e11⟩ := h11
  have RR11 := Lib.hid rr11
  clear rr11
  replace HT := Lib.hid (HT.out.trans hS)
  clear hS
  simp only [setAll, List.setIfInBounds_toArray, List.set_cons_zero, List.set_cons_succ, e10, e11]
  show wpList _ _ _ [_, _, _, _] _ _
  refine wpList_run rfl (exec_alloc_pt rfl) ?_
  refine wpList_run rfl (exec_alloc_rp rfl) ?_
  simp only [Act.put, List.setIfInBounds_toArray, List.set_cons_zero, List.set_cons_succ]
  obtain ⟨w2, g5, g6, hW, eg5, eg6, b5, b6, ht, hb5, hb6, ne5_6⟩ := start2 w1 28 (ptA false zl) 33 #[.string ⟨#[]⟩, .string ⟨#[]⟩, .string ⟨#[]⟩]
  rw [← hW]
  rw [← eg6]
  rw [← eg5]
  have NE5_6 := Lib.hid ne5_6
  have B5 := Lib.hid b5
  have HB5 := Lib.hid (Nat.le_trans HT.out.size hb5)
  have B6 := Lib.hid b6
  have HB6 := Lib.hid (Nat.le_trans HT.out.size hb6)
  replace HT := Lib.hid (HT.out.trans ht)
  clear hW eg5 eg6 b5 b6 ht hb5 hb6 ne5_6
  refine wpList_store_row rfl 28 (.tmp 5) (.tmp 10) rfl g5 (ptA b10 l10) rfl rfl 28 (ptA false zl) B5.out (by rw [ptA_size P10.out.len]; exact infoP) ((ptA_size zl_len).trans (ptA_size P10.out.len).symm) (ptA_one b10 l10) ?_
  refine wpList_store_row rfl 33 (.tmp 6) (.tmp 11) rfl g6 #[.string (toS X11), .string (toS Y11), .string (toS Z11)] rfl rfl 33 #[.string ⟨#[]⟩, .string ⟨#[]⟩, .string ⟨#[]⟩] (B6.out.frow (Ne.symm NE5_6.out) (ptA b10 l10)) infoR rfl (rp_one ..) ?_
  refine wpList_nil ?_
  simp only [Act.put]
  have B5' := ((B5.out.setRow (ptA b10 l10)).frow NE5_6.out #[.string (toS X11), .string (toS Y11), .string (toS Z11)])
  have B6' := ((B6.out.frow (Ne.symm NE5_6.out) (ptA b10 l10)).setRow #[.string (toS X11), .string (toS Y11), .string (toS Z11)])
  have HT' := ((HT.out.setRowE (.inr HB5.out) (ptA b10 l10)).setRowE (.inr HB6.out) #[.string (toS X11), .string (toS Y11), .string (toS Z11)])
  obtain ⟨w3, hw3⟩ : ∃ w3, w3 = ((w2.setRow g5 (ptA b10 l10)).setRow g6 #[.string (toS X11), .string (toS Y11), .string (toS Z11)]) := ⟨_, rfl⟩
  rw [← hw3] at HT' B5' B6'
  rw [← hw3]
  clear hw3 HT B5 B6
  have B5 := Lib.hid B5'
  clear B5'
  have B6 := Lib.hid B6'
  clear B6'
  have HT := Lib.hid HT'
  clear HT'
  clear e10 e11
  go_upto_region 2 with fail
  refine wp_region_flowX (lookW [(1, pu (isS (k))), (4, pu (isB true)), (5, pu (isP (g5))), (6, pu (isP (g6))), (12, pu (PtV (someP (s)))), (13, pu (isS (k))), (14, pu (PtV (pmul (lowN (k)) (someP (s))))), (15, pu (isS (encS (pmul (lowN (k)) (someP (s)))))), (16, pu (RfV (someP (s)))), (17, pu (isS (k))), (18, pu (RfV (pmul (lowN (k)) (someP (s))))), (19, pu (isS (encS (pmul (lowN (k)) (someP (s)))))), (20, pu (isB true)), (21, pu (isB true)), (22, pu (PtV (someP (s)))), (23, pu (isB (samePt (pmul 8 (someP (s))) (pzero)))), (24, pu (RfV (someP (s)))), (25, pu (RfV (pmul 8 (someP (s))))), (26, pu (isV (rpS (toS (0)) (toS (1)) (toS (1))))), (27, pu (isB (samePt (pmul 8 (someP (s))) (pzero)))), (28, pu (isB true)), (29, pu (isB true)), (30, pu (isB true)), (31, pu (isB true)), (32, pu (isB true))]) (by kernel_rfl) 22 [] (fun d _ _ _ _ h => by cases d <;> exact h) (by intro l hl; cases hl) [1, 5, 6] [12, 13, 14, 15, 16, 17, 18, 19, 20, 21, 22, 23, 24, 25, 26, 27, 28, 29, 30, 31, 32, 4] [4] [] (by kernel_rfl) (by kernel_rfl) (by kernel_rfl) (by kernel_rfl) (by kernel_rfl) (by kernel_rfl) ⟨rfl, rfl, rfl, trivial⟩ ?_ ?_
  · refine FStepsX.cons rfl (FStepW.plain rfl fun a w hS hE => OpTo.rdP 12 (.tmp 5) rfl rfl (g5) (hE 5 (by kernel_rfl)) (B5.out.touch hS notin_nil) P10.out (fun _ h => h)) ?_
    refine FStepsX.cons rfl (FStepW.plain rfl fun a w hS hE => OpTo.move rfl ⟨dOfW.of 13 rfl (hE 1 (by kernel_rfl)), Touch.refl _ _⟩) ?_
    refine FStepsX.cons rfl (FStepW.plain rfl fun a w hS hE => OpTo.call #[a.tmps.getD 12 undef, a.tmps.getD 13 undef] rfl Try.func21 (by kernel_rfl) (by kernel_rfl) (args2 ..) ((pmul_v (hE 12 (by kernel_rfl)) (hE 13 (by kernel_rfl)) w).mono fun _ _ h => Gives.toW 14 rfl (fun _ _ h => h) h)) ?_
    refine FStepsX.cons rfl (FStepW.plain rfl fun a w hS hE => OpTo.call #[a.tmps.getD 14 undef] rfl Try.func11 (by kernel_rfl) (by kernel_rfl) (args1 ..) ((penc_v (hE 14 (by kernel_rfl)) w).mono fun _ _ h => Gives.toW 15 rfl (fun _ _ h => h) h)) ?_
    refine FStepsX.cons rfl (FStepW.plain rfl fun a w hS hE => OpTo.rdR 16 (.tmp 6) rfl rfl (g6) (hE 6 (by kernel_rfl)) (B6.out.touch hS notin_nil) RR11.out (fun _ h => h)) ?_
    refine FStepsX.cons rfl (FStepW.plain rfl fun a w hS hE => OpTo.move rfl ⟨dOfW.of 17 rfl (hE 1 (by kernel_rfl)), Touch.refl _ _⟩) ?_
    refine FStepsX.cons rfl (FStepW.plain rfl fun a w hS hE => OpTo.call #[a.tmps.getD 16 undef, a.tmps.getD 17 undef] rfl Try.func22 (by kernel_rfl) (by kernel_rfl) (args2 ..) ((rpmul_v (hE 16 (by kernel_rfl)) (hE 17 (by kernel_rfl)) KS.out w).mono fun _ _ h => Gives.toW 18 rfl (fun _ _ h => h) h)) ?_
    refine FStepsX.cons rfl (FStepW.plain rfl fun a w hS hE => OpTo.call #[a.tmps.getD 18 undef] rfl Try.func12 (by kernel_rfl) (by kernel_rfl) (args1 ..) ((rpenc_v (hE 18 (by kernel_rfl)) w).mono fun _ _ h => Gives.toW 19 rfl (fun _ _ h => h) h)) ?_
    refine FStepsX.cons rfl (FStepW.plain rfl fun a w hS hE => OpTo.eqS (encS (pmul (lowN (k)) (someP (s)))) (encS (pmul (lowN (k)) (someP (s)))) rfl (hE 15 (by kernel_rfl)) (hE 19 (by kernel_rfl)) ⟨dOfW.of 20 rfl (by rw [(beq_self_eq_true _)]; rfl), Touch.refl _ _⟩) ?_
    refine FStepsX.cons rfl (FStepW.plain rfl fun a w hS hE => OpTo.move rfl ⟨dOfW.of 21 rfl (hE 20 (by kernel_rfl)), Touch.refl _ _⟩) ?_
    refine FStepsX.cons rfl (FStepW.go 21 rfl rfl (fun _ _ h => h) fun a w hS hE => OpTo.rdP 22 (.tmp 5) rfl rfl (g5) (hE 5 (by kernel_rfl)) (B5.out.touch hS notin_nil) P10.out (fun _ h => h)) ?_
    refine FStepsX.cons rfl (FStepW.go 21 rfl rfl (fun _ _ h => h) fun a w hS hE => OpTo.call #[a.tmps.getD 22 undef] rfl Try.func23 (by kernel_rfl) (by kernel_rfl) (args1 ..) ((small_v (hE 22 (by kernel_rfl)) w).mono fun _ _ h => Gives.toW 23 rfl (fun _ _ h => h) h)) ?_
    refine FStepsX.cons rfl (FStepW.go 21 rfl rfl (fun _ _ h => h) fun a w hS hE => OpTo.rdR 24 (.tmp 6) rfl rfl (g6) (hE 6 (by kernel_rfl)) (B6.out.touch hS notin_nil) RR11.out (fun _ h => h)) ?_
    refine FStepsX.cons rfl (FStepW.go 21 rfl rfl (fun _ _ h => h) fun a w hS hE => OpTo.call #[a.tmps.getD 24 undef, .string ⟨#[8]⟩] rfl Try.func22 (by kernel_rfl) (by kernel_rfl) (args2 ..) ((rpmul8_v (hE 24 (by kernel_rfl)) (Eq.refl (Value.string ⟨#[8]⟩)) w).mono fun _ _ h => Gives.toW 25 rfl (fun _ _ h => h) h)) ?_
    refine FStepsX.cons rfl (FStepW.go 21 rfl rfl (fun _ _ h => h) fun a w hS hE => OpTo.call #[] rfl Try.func24 (by kernel_rfl) (by kernel_rfl) (args0 ..) ((rzero_v w).mono fun _ _ h => Gives.toW 26 rfl (fun _ _ h => h) h)) ?_
    refine FStepsX.cons rfl (FStepW.go 21 rfl rfl (fun _ _ h => h) fun a w hS hE => OpTo.call #[a.tmps.getD 25 undef, a.tmps.getD 26 undef] rfl Try.func20 (by kernel_rfl) (by kernel_rfl) (args2 ..) ((rpsame_v (hE 25 (by kernel_rfl)) (rf_zero (hE 26 (by kernel_rfl))) w).mono fun _ _ h => Gives.toW 27 rfl (fun _ _ h => h) h)) ?_
    refine FStepsX.cons rfl (FStepW.go 21 rfl rfl (fun _ _ h => h) fun a w hS hE => OpTo.eqB Try.underlying4 (samePt (pmul 8 (someP (s))) (pzero)) (samePt (pmul 8 (someP (s))) (pzero)) rfl (hE 23 (by kernel_rfl)) (hE 27 (by kernel_rfl)) ⟨dOfW.of 28 rfl (congrArg Value.bool (beq_self_eq_true _)), Touch.refl _ _⟩) ?_
    refine FStepsX.cons rfl (FStepW.plain rfl fun a w hS hE => OpTo.pick true rfl (hE 21 (by kernel_rfl)) ⟨dOfW.of 29 rfl (hE 28 (by kernel_rfl)), Touch.refl _ _⟩) ?_
    refine FStepsX.cons rfl (FStepW.plain rfl fun a w hS hE => OpTo.move rfl ⟨dOfW.of 30 rfl (hE 29 (by kernel_rfl)), Touch.refl _ _⟩) ?_
    refine FStepsX.cons rfl (FStepW.go 30 rfl rfl (fun _ _ h => h) fun a w hS hE => OpTo.call #[] rfl Try.func13 (by kernel_rfl) (by kernel_rfl) (args0 ..) ((fixed_v w).mono fun _ _ h => Gives.toW 31 rfl (fun _ _ h => h) h)) ?_
    refine FStepsX.cons rfl (FStepW.plain rfl fun a w hS hE => OpTo.pick true rfl (hE 30 (by kernel_rfl)) ⟨dOfW.of 32 rfl (hE 31 (by kernel_rfl)), Touch.refl _ _⟩) ?_
    refine FStepsX.cons rfl (FStepW.plain rfl fun a w hS hE => OpTo.assign rfl ⟨dOfW.of 4 rfl (hE 32 (by kernel_rfl)), Touch.refl _ _⟩) ?_
    exact FStepsX.nil
  intro f w4 hS hF hA
  obtain ⟨h4, -⟩ := hF
  have e4 : f 4 = .bool true := h4
  clear h4
  clear hA
  replace B5 := Lib.hid (B5.out.touch hS notin_nil)
  replace B6 := Lib.hid (B6.out.touch hS notin_nil)
  replace HT := Lib.hid (HT.out.trans hS)
  clear hS
  simp only [setAll, List.setIfInBounds_toArray, List.set_cons_zero, List.set_cons_succ, e4]
  show wpList _ _ _ [] _ _
  refine wpList_nil ?_
  clear e4
  go_wp2_with fail
  go_ret
  exact ⟨rfl, HT.out⟩
end Go.Proofs.Ytbgpgbfiadhddaa
