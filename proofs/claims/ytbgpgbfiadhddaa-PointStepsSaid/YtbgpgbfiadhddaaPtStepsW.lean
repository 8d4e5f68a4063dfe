/- syngraphlaw06.PointSteps: the walk. -/
import Derived.Test.YtbgpgbfiadhddaaPm24
namespace Go.Proofs.Ytbgpgbfiadhddaa
open Go Go.RowKit
theorem lowN_one {n : Nat} (h : n < 256) : lowN (strOfNums [(n : Int)]) = n := by
  have h1 : bl (strOfNums [(n : Int)]) = [n] := bl_strOfNums [n] (fun x hx => by simp at hx; omega)
  unfold lowN
  rw [h1]
  show (n + 256 * 0) % 2 ^ 256 = n
  rw [Nat.mul_zero, Nat.add_zero, Nat.mod_eq_of_lt (Nat.lt_trans h (by decide))]
set_option maxRecDepth 100000 in
set_option maxHeartbeats 4000000 in
theorem psteps_walk (s : ByteArray) (c : Nat) (hc : c < 256) (w : World) : Calls Try.prog 8 #[.string s, .int .u8 (c : Int)] w fun e w' => e = .returned (.bool true) ∧ Touch [] w w' := by
  obtain ⟨n, hn, hn'⟩ : ∃ n : Nat, (c : Int).tmod 255 = (n : Int) ∧ n < 255 := ⟨c % 255, by rw [Int.tmod_eq_emod_of_nonneg (by omega)]; omega, Nat.mod_lt _ (by decide)⟩
  have K19 := Lib.hid hn
  have K27 := Lib.hid (show IntKind.u8.wrap ((n : Int) + 1) = ((n + 1 : Nat) : Int) by rw [IntWalk.u8_in _ (by omega)]; omega)
  have L1 := Lib.hid (lowN_one (n := n) (by omega))
  have L2 := Lib.hid (lowN_one (n := n + 1) (by omega))
  clear hn hn' hc
  go_enter Try.func8, Try.ntmps8
  go_upto_region 0 with fail
  refine wp_region_list ?_
  refine wpList_run (v := .bool false) rfl (exec_assignV rfl rfl) ?_
  refine wpList_nil ?_
  simp only [Act.put, List.setIfInBounds_toArray, List.set_cons_zero, List.set_cons_succ]
  have HT := Lib.hid (Touch.refl [] w)
  go_upto_region 1 with fail
  refine wp_region_list (wpList_flowP 5 (lookW [(0, pu (isS (s))), (13, pu (SomV (someP (s)))), (14, pu (isS (s))), (15, pu (SomV (someP (s)))), (16, pu (PtV (someP (s)))), (17, pu (RfV (someP (s))))]) [0] [14, 15, 13, 16, 17] [16, 17] (by kernel_rfl) (by kernel_rfl) (by kernel_rfl) ⟨rfl, trivial⟩ ?_ ?_)
  · refine FStepsW.cons (FStepW.plain rfl fun a w hS hE => OpTo.move rfl ⟨dOfW.of 14 rfl (hE 0 (by kernel_rfl)), Touch.refl _ _⟩) ?_
    refine FStepsW.cons (FStepW.plain rfl fun a w hS hE => OpTo.call #[a.tmps.getD 14 undef] rfl Try.func14 (by kernel_rfl) (by kernel_rfl) (args1 ..) ((some_v (hE 14 (by kernel_rfl)) w).mono fun _ _ h => Gives.toW 15 rfl (fun _ _ h => h) h)) ?_
    refine FStepsW.cons (FStepW.plain rfl fun a w hS hE => OpTo.move rfl ⟨dOfW.of 13 rfl (hE 15 (by kernel_rfl)), Touch.refl _ _⟩) ?_
    refine FStepsW.cons (FStepW.plain rfl fun a w hS hE => OpTo.extS0 16 _ rfl rfl (hE 13 (by kernel_rfl)) (fun _ h => h)) ?_
    refine FStepsW.cons (FStepW.plain rfl fun a w hS hE => OpTo.extS1 17 _ rfl rfl (hE 13 (by kernel_rfl)) (fun _ h => h)) ?_
    exact FStepsW.nil
  intro f w1 hS hF
  obtain ⟨h16, h17, -⟩ := hF
  obtain ⟨b16, l16, q16, e16⟩ := h16
  have P16 := Lib.hid q16
  clear q16
  obtain ⟨X17, Y17, Z17, rr17, e17⟩ := h17
  have RR17 := Lib.hid rr17
  clear rr17
  replace HT := Lib.hid (HT.out.trans hS)
  clear hS
  simp only [setAll, List.setIfInBounds_toArray, List.set_cons_zero, List.set_cons_succ, e16, e17]
  show wpList _ _ _ [_, _, _, _] _ _
  refine wpList_run rfl (exec_alloc_pt rfl) ?_
  refine wpList_run rfl (exec_alloc_rp rfl) ?_
  simp only [Act.put, List.setIfInBounds_toArray, List.set_cons_zero, List.set_cons_succ]
  obtain ⟨w2, g5, g6, hW, eg5, eg6, b5, b6, ht, hb5, hb6, ne5_6⟩ := start2 w1 28 (ptA false zl) 33 #[.string ⟨#[]⟩, .string ⟨#[]⟩, .string ⟨#[]⟩]
  rw [← hW]
  rw [← eg6]
  rw [← eg5]
  have NE5_6 := Lib.hid ne5_6
  have B5 := Lib.hid b5
  have HB5 := Lib.hid (Nat.le_trans HT.out.size hb5)
  have B6 := Lib.hid b6
  have HB6 := Lib.hid (Nat.le_trans HT.out.size hb6)
  replace HT := Lib.hid (HT.out.trans ht)
  clear hW eg5 eg6 b5 b6 ht hb5 hb6 ne5_6
  refine wpList_store_row rfl 28 (.tmp 5) (.tmp 16) rfl g5 (ptA b16 l16) rfl rfl 28 (ptA false zl) B5.out (by rw [ptA_size P16.out.len]; exact infoP) ((ptA_size zl_len).trans (ptA_size P16.out.len).symm) (ptA_one b16 l16) ?_
  refine wpList_store_row rfl 33 (.tmp 6) (.tmp 17) rfl g6 #[.string (toS X17), .string (toS Y17), .string (toS Z17)] rfl rfl 33 #[.string ⟨#[]⟩, .string ⟨#[]⟩, .string ⟨#[]⟩] (B6.out.frow (Ne.symm NE5_6.out) (ptA b16 l16)) infoR rfl (rp_one ..) ?_
  refine wpList_nil ?_
  simp only [Act.put]
  have B5' := ((B5.out.setRow (ptA b16 l16)).frow NE5_6.out #[.string (toS X17), .string (toS Y17), .string (toS Z17)])
  have B6' := ((B6.out.frow (Ne.symm NE5_6.out) (ptA b16 l16)).setRow #[.string (toS X17), .string (toS Y17), .string (toS Z17)])
  have HT' := ((HT.out.setRowE (.inr HB5.out) (ptA b16 l16)).setRowE (.inr HB6.out) #[.string (toS X17), .string (toS Y17), .string (toS Z17)])
  obtain ⟨w3, hw3⟩ : ∃ w3, w3 = ((w2.setRow g5 (ptA b16 l16)).setRow g6 #[.string (toS X17), .string (toS Y17), .string (toS Z17)]) := ⟨_, rfl⟩
  rw [← hw3] at HT' B5' B6'
  rw [← hw3]
  clear hw3 HT B5 B6
  have B5 := Lib.hid B5'
  clear B5'
  have B6 := Lib.hid B6'
  clear B6'
  have HT := Lib.hid HT'
  clear HT'
  clear B6 HB6
  clear e16 e17
  go_upto_region 2 with fail
  refine wp_region_list (wpList_flowP 3 (lookW [(1, pu (isV (.int .u8 ((c : Int))))), (7, pu (isV (.int .u8 ((n : Int))))), (18, pu (isV (.int .u8 ((c : Int))))), (19, pu (isV (.int .u8 ((n : Int)))))]) [1] [18, 19, 7] [7] (by kernel_rfl) (by kernel_rfl) (by kernel_rfl) ⟨rfl, trivial⟩ ?_ ?_)
  · refine FStepsW.cons (FStepW.plain rfl fun a w hS hE => OpTo.move rfl ⟨dOfW.of 18 rfl (hE 1 (by kernel_rfl)), Touch.refl _ _⟩) ?_
    refine FStepsW.cons (FStepW.plain rfl fun a w hS hE => OpTo.remI ((c : Int)) (255) ((n : Int)) (by decide) rfl (hE 18 (by kernel_rfl)) rfl K19.out ⟨dOfW.of 19 rfl rfl, Touch.refl _ _⟩) ?_
    refine FStepsW.cons (FStepW.plain rfl fun a w hS hE => OpTo.assign rfl ⟨dOfW.of 7 rfl (hE 19 (by kernel_rfl)), Touch.refl _ _⟩) ?_
    exact FStepsW.nil
  intro f w4 hS hF
  obtain ⟨h7, -⟩ := hF
  have e7 : f 7 = .int .u8 ((n : Int)) := h7
  clear h7
  replace B5 := Lib.hid (B5.out.touch hS notin_nil)
  replace HT := Lib.hid (HT.out.trans hS)
  clear hS
  simp only [setAll, List.setIfInBounds_toArray, List.set_cons_zero, List.set_cons_succ, e7]
  show wpList _ _ _ [] _ _
  refine wpList_nil ?_
  clear e7
  go_upto_region 3 with fail
  refine wp_region_flowX (lookW [(5, pu (isP (g5))), (7, pu (isV (.int .u8 ((n : Int))))), (8, newS w4.heap.size 28 (ptA false zl)), (9, newS w4.heap.size 28 (ptA false zl)), (20, pu (PtV (someP (s)))), (21, pu (isV (.int .u8 ((n : Int))))), (22, sl1 ((n : Int))), (23, pu (isS (strOfNums [(n : Int)]))), (24, pu (PtV (pmul (lowN (strOfNums [(n : Int)])) (someP (s))))), (25, pu (PtV (someP (s)))), (26, pu (isV (.int .u8 ((n : Int))))), (27, pu (isV (.int .u8 (((n + 1 : Nat) : Int))))), (28, sl1 (((n + 1 : Nat) : Int))), (29, pu (isS (strOfNums [((n + 1 : Nat) : Int)]))), (30, pu (PtV (pmul (lowN (strOfNums [((n + 1 : Nat) : Int)])) (someP (s)))))]) (by kernel_rfl) 13 [] (fun d _ _ _ _ h => by cases d <;> exact h) (by intro l hl; cases hl) [5, 7] [20, 21, 22, 23, 24, 25, 26, 27, 28, 29, 30, 8, 9] [24, 30, 8, 9] [(11, 8), (12, 9)] (by kernel_rfl) (by kernel_rfl) (by kernel_rfl) (by kernel_rfl) (by kernel_rfl) (by kernel_rfl) ⟨rfl, rfl, trivial⟩ ?_ ?_
  · refine FStepsX.cons rfl (FStepW.plain rfl fun a w hS hE => OpTo.rdP 20 (.tmp 5) rfl rfl (g5) (hE 5 (by kernel_rfl)) (B5.out.touch hS notin_nil) P16.out (fun _ h => h)) ?_
    refine FStepsX.cons rfl (FStepW.plain rfl fun a w hS hE => OpTo.move rfl ⟨dOfW.of 21 rfl (hE 7 (by kernel_rfl)), Touch.refl _ _⟩) ?_
    refine FStepsX.cons rfl (FStepW.plain rfl fun a w hS hE => OpTo.one ((n : Int)) rfl (hE 21 (by kernel_rfl)) (fun _ _ h => dOfW.of 22 rfl h)) ?_
    refine FStepsX.cons rfl (FStepW.plain rfl fun a w hS hE => OpTo.str1 ((n : Int)) rfl (hE 22 (by kernel_rfl)) (dOfW.of 23 rfl rfl)) ?_
    refine FStepsX.cons rfl (FStepW.plain rfl fun a w hS hE => OpTo.call #[a.tmps.getD 20 undef, a.tmps.getD 23 undef] rfl Try.func21 (by kernel_rfl) (by kernel_rfl) (args2 ..) ((pmul_v (hE 20 (by kernel_rfl)) (hE 23 (by kernel_rfl)) w).mono fun _ _ h => Gives.toW 24 rfl (fun _ _ h => h) h)) ?_
    refine FStepsX.cons rfl (FStepW.plain rfl fun a w hS hE => OpTo.rdP 25 (.tmp 5) rfl rfl (g5) (hE 5 (by kernel_rfl)) (B5.out.touch hS notin_nil) P16.out (fun _ h => h)) ?_
    refine FStepsX.cons rfl (FStepW.plain rfl fun a w hS hE => OpTo.move rfl ⟨dOfW.of 26 rfl (hE 7 (by kernel_rfl)), Touch.refl _ _⟩) ?_
    refine FStepsX.cons rfl (FStepW.plain rfl fun a w hS hE => OpTo.addI ((n : Int)) (1) (((n + 1 : Nat) : Int)) rfl (hE 26 (by kernel_rfl)) rfl K27.out ⟨dOfW.of 27 rfl rfl, Touch.refl _ _⟩) ?_
    refine FStepsX.cons rfl (FStepW.plain rfl fun a w hS hE => OpTo.one (((n + 1 : Nat) : Int)) rfl (hE 27 (by kernel_rfl)) (fun _ _ h => dOfW.of 28 rfl h)) ?_
    refine FStepsX.cons rfl (FStepW.plain rfl fun a w hS hE => OpTo.str1 (((n + 1 : Nat) : Int)) rfl (hE 28 (by kernel_rfl)) (dOfW.of 29 rfl rfl)) ?_
    refine FStepsX.cons rfl (FStepW.plain rfl fun a w hS hE => OpTo.call #[a.tmps.getD 25 undef, a.tmps.getD 29 undef] rfl Try.func21 (by kernel_rfl) (by kernel_rfl) (args2 ..) ((pmul_v (hE 25 (by kernel_rfl)) (hE 29 (by kernel_rfl)) w).mono fun _ _ h => Gives.toW 30 rfl (fun _ _ h => h) h)) ?_
    refine FStepsX.new 8 28 (ptA false zl) rfl rfl (fun _ _ => exec_alloc_pt rfl) rfl ?_
    refine FStepsX.new 9 28 (ptA false zl) rfl rfl (fun _ _ => exec_alloc_pt rfl) rfl ?_
    exact FStepsX.nil
  intro f w5 hS hF hA
  obtain ⟨h24, h30, h8, h9, -⟩ := hF
  obtain ⟨b24, l24, q24, e24⟩ := h24
  have P24 := Lib.hid q24
  clear q24
  obtain ⟨b30, l30, q30, e30⟩ := h30
  have P30 := Lib.hid q30
  clear q30
  obtain ⟨g8, e8, z8, b8⟩ := h8
  obtain ⟨g9, e9, z9, b9⟩ := h9
  have ne8_9 : g8 ≠ g9 := fun e => hA (11, 8) (by simp) (12, 9) (by simp) (by decide) (by rw [e8, e9, e])
  have NE8_9 := Lib.hid ne8_9
  clear ne8_9
  have NE5_8 := Lib.hid (ne_new B5.out b8)
  have NE5_9 := Lib.hid (ne_new B5.out b9)
  clear hA
  replace B5 := Lib.hid (B5.out.touch hS notin_nil)
  have B8 := Lib.hid z8
  have HB8 := Lib.hid (Nat.le_trans HT.out.size b8)
  clear z8 b8
  have B9 := Lib.hid z9
  have HB9 := Lib.hid (Nat.le_trans HT.out.size b9)
  clear z9 b9
  replace HT := Lib.hid (HT.out.trans hS)
  clear hS
  simp only [setAll, List.setIfInBounds_toArray, List.set_cons_zero, List.set_cons_succ, e24, e30, e8, e9]
  show wpList _ _ _ [_, _] _ _
  refine wpList_store_row rfl 28 (.tmp 8) (.tmp 24) rfl g8 (ptA b24 l24) rfl rfl 28 (ptA false zl) B8.out (by rw [ptA_size P24.out.len]; exact infoP) ((ptA_size zl_len).trans (ptA_size P24.out.len).symm) (ptA_one b24 l24) ?_
  refine wpList_store_row rfl 28 (.tmp 9) (.tmp 30) rfl g9 (ptA b30 l30) rfl rfl 28 (ptA false zl) (B9.out.frow (Ne.symm NE8_9.out) (ptA b24 l24)) (by rw [ptA_size P30.out.len]; exact infoP) ((ptA_size zl_len).trans (ptA_size P30.out.len).symm) (ptA_one b30 l30) ?_
  refine wpList_nil ?_
  simp only [Act.put]
  have B5' := ((B5.out.frow NE5_8.out (ptA b24 l24)).frow NE5_9.out (ptA b30 l30))
  have B8' := ((B8.out.setRow (ptA b24 l24)).frow NE8_9.out (ptA b30 l30))
  have B9' := ((B9.out.frow (Ne.symm NE8_9.out) (ptA b24 l24)).setRow (ptA b30 l30))
  have HT' := ((HT.out.setRowE (.inr HB8.out) (ptA b24 l24)).setRowE (.inr HB9.out) (ptA b30 l30))
  obtain ⟨w6, hw6⟩ : ∃ w6, w6 = ((w5.setRow g8 (ptA b24 l24)).setRow g9 (ptA b30 l30)) := ⟨_, rfl⟩
  rw [← hw6] at HT' B5' B8' B9'
  rw [← hw6]
  clear hw6 HT B5 B8 B9
  have B5 := Lib.hid B5'
  clear B5'
  have B8 := Lib.hid B8'
  clear B8'
  have B9 := Lib.hid B9'
  clear B9'
  have HT := Lib.hid HT'
  clear HT'
  clear e24 e30 e8 e9
  go_upto_region 4 with fail
  refine wp_region_list (wpList_flowP 2 (lookW [(8, pu (isP (g8))), (31, pu (PtV (pmul (lowN (strOfNums [(n : Int)])) (someP (s))))), (32, pu (isS (encS (pmul (lowN (strOfNums [(n : Int)])) (someP (s))))))]) [8] [31, 32] [32] (by kernel_rfl) (by kernel_rfl) (by kernel_rfl) ⟨rfl, trivial⟩ ?_ ?_)
  · refine FStepsW.cons (FStepW.plain rfl fun a w hS hE => OpTo.rdP 31 (.tmp 8) rfl rfl (g8) (hE 8 (by kernel_rfl)) (B8.out.touch hS notin_nil) P24.out (fun _ h => h)) ?_
    refine FStepsW.cons (FStepW.plain rfl fun a w hS hE => OpTo.call #[a.tmps.getD 31 undef] rfl Try.func11 (by kernel_rfl) (by kernel_rfl) (args1 ..) ((penc_v (hE 31 (by kernel_rfl)) w).mono fun _ _ h => Gives.toW 32 rfl (fun _ _ h => h) h)) ?_
    exact FStepsW.nil
  intro f w7 hS hF
  obtain ⟨h32, -⟩ := hF
  have e32 : f 32 = .string (encS (pmul (lowN (strOfNums [(n : Int)])) (someP (s)))) := h32
  clear h32
  replace B5 := Lib.hid (B5.out.touch hS notin_nil)
  replace B8 := Lib.hid (B8.out.touch hS notin_nil)
  replace B9 := Lib.hid (B9.out.touch hS notin_nil)
  replace HT := Lib.hid (HT.out.trans hS)
  clear hS
  simp only [setAll, List.setIfInBounds_toArray, List.set_cons_zero, List.set_cons_succ, e32]
  show wpList _ _ _ [_] _ _
  refine wpList_run (v := .string (encS (pmul (lowN (strOfNums [(n : Int)])) (someP (s))))) rfl (exec_assignV rfl rfl) ?_
  refine wpList_nil ?_
  simp only [Act.put, List.setIfInBounds_toArray, List.set_cons_zero, List.set_cons_succ]
  clear e32
  go_upto_region 5 with fail
  refine wp_region_list (wpList_flowP 6 (lookW [(10, pu (isS (encS (pmul (lowN (strOfNums [(n : Int)])) (someP (s)))))), (11, newS w7.heap.size 28 (ptA false zl)), (33, pu (Tup (PtV (decP (encS (pmul (lowN (strOfNums [(n : Int)])) (someP (s)))))) (.int .i64 (decC (encS (pmul (lowN (strOfNums [(n : Int)])) (someP (s)))))))), (34, pu (isS (encS (pmul (lowN (strOfNums [(n : Int)])) (someP (s)))))), (35, pu (Tup (PtV (decP (encS (pmul (lowN (strOfNums [(n : Int)])) (someP (s)))))) (.int .i64 (decC (encS (pmul (lowN (strOfNums [(n : Int)])) (someP (s)))))))), (36, pu (PtV (decP (encS (pmul (lowN (strOfNums [(n : Int)])) (someP (s))))))), (37, pu (isV (.int .i64 (decC (encS (pmul (lowN (strOfNums [(n : Int)])) (someP (s))))))))]) [10] [34, 35, 33, 36, 37, 11] [36, 37, 11] (by kernel_rfl) (by kernel_rfl) (by kernel_rfl) ⟨rfl, trivial⟩ ?_ ?_)
  · refine FStepsW.cons (FStepW.plain rfl fun a w hS hE => OpTo.move rfl ⟨dOfW.of 34 rfl (hE 10 (by kernel_rfl)), Touch.refl _ _⟩) ?_
    refine FStepsW.cons (FStepW.plain rfl fun a w hS hE => OpTo.call #[a.tmps.getD 34 undef] rfl Try.func9 (by kernel_rfl) (by kernel_rfl) (args1 ..) ((pdec_v (hE 34 (by kernel_rfl)) w).mono fun _ _ h => Gives.toW 35 rfl (fun _ _ h => h) h)) ?_
    refine FStepsW.cons (FStepW.plain rfl fun a w hS hE => OpTo.move rfl ⟨dOfW.of 33 rfl (hE 35 (by kernel_rfl)), Touch.refl _ _⟩) ?_
    refine FStepsW.cons (FStepW.plain rfl fun a w hS hE => OpTo.ext0 36 _ rfl rfl (hE 33 (by kernel_rfl)) (fun _ h => h)) ?_
    refine FStepsW.cons (FStepW.plain rfl fun a w hS hE => OpTo.ext1 37 _ rfl rfl (hE 33 (by kernel_rfl)) rfl) ?_
    refine FStepsW.cons (FStepW.plain rfl fun a w hS hE => OpTo.allocG 11 28 (ptA false zl) rfl hS (exec_alloc_pt rfl) rfl) ?_
    exact FStepsW.nil
  intro f w8 hS hF
  obtain ⟨h36, h37, h11, -⟩ := hF
  obtain ⟨b36, l36, q36, e36⟩ := h36
  have P36 := Lib.hid q36
  clear q36
  have e37 : f 37 = .int .i64 (decC (encS (pmul (lowN (strOfNums [(n : Int)])) (someP (s))))) := h37
  clear h37
  obtain ⟨g11, e11, z11, b11⟩ := h11
  have NE5_11 := Lib.hid (ne_new B5.out b11)
  have NE8_11 := Lib.hid (ne_new B8.out b11)
  have NE9_11 := Lib.hid (ne_new B9.out b11)
  replace B5 := Lib.hid (B5.out.touch hS notin_nil)
  replace B8 := Lib.hid (B8.out.touch hS notin_nil)
  replace B9 := Lib.hid (B9.out.touch hS notin_nil)
  have B11 := Lib.hid z11
  have HB11 := Lib.hid (Nat.le_trans HT.out.size b11)
  clear z11 b11
  replace HT := Lib.hid (HT.out.trans hS)
  clear hS
  simp only [setAll, List.setIfInBounds_toArray, List.set_cons_zero, List.set_cons_succ, e36, e37, e11]
  show wpList _ _ _ [_, _] _ _
  refine wpList_store_row rfl 28 (.tmp 11) (.tmp 36) rfl g11 (ptA b36 l36) rfl rfl 28 (ptA false zl) B11.out (by rw [ptA_size P36.out.len]; exact infoP) ((ptA_size zl_len).trans (ptA_size P36.out.len).symm) (ptA_one b36 l36) ?_
  refine wpList_run (v := .int .i64 (decC (encS (pmul (lowN (strOfNums [(n : Int)])) (someP (s)))))) rfl (exec_assignV rfl rfl) ?_
  refine wpList_nil ?_
  simp only [Act.put, List.setIfInBounds_toArray, List.set_cons_zero, List.set_cons_succ]
  have B5' := (B5.out.frow NE5_11.out (ptA b36 l36))
  have B8' := (B8.out.frow NE8_11.out (ptA b36 l36))
  have B9' := (B9.out.frow NE9_11.out (ptA b36 l36))
  have B11' := (B11.out.setRow (ptA b36 l36))
  have HT' := (HT.out.setRowE (.inr HB11.out) (ptA b36 l36))
  obtain ⟨w9, hw9⟩ : ∃ w9, w9 = (w8.setRow g11 (ptA b36 l36)) := ⟨_, rfl⟩
  rw [← hw9] at HT' B5' B8' B9' B11'
  rw [← hw9]
  clear hw9 HT B5 B8 B9 B11
  have B5 := Lib.hid B5'
  clear B5'
  have B8 := Lib.hid B8'
  clear B8'
  have B9 := Lib.hid B9'
  clear B9'
  have B11 := Lib.hid B11'
  clear B11'
  have HT := Lib.hid HT'
  clear HT'
  clear e36 e37 e11
  go_upto_region 6 with fail
  refine wp_region_flowX (lookW [(4, pu (isB true)), (5, pu (isP (g5))), (7, pu (isV (.int .u8 ((n : Int))))), (8, pu (isP (g8))), (9, pu (isP (g9))), (10, pu (isS (encS (pmul (lowN (strOfNums [(n : Int)])) (someP (s)))))), (11, pu (isP (g11))), (12, pu (isV (.int .i64 (decC (encS (pmul (lowN (strOfNums [(n : Int)])) (someP (s)))))))), (38, pu (PtV (pmul (lowN (strOfNums [((n + 1 : Nat) : Int)])) (someP (s))))), (39, pu (PtV (pmul (lowN (strOfNums [(n : Int)])) (someP (s))))), (40, pu (PtV (someP (s)))), (41, pu (PtV (padd (pmul (lowN (strOfNums [(n : Int)])) (someP (s))) (someP (s))))), (42, pu (isB true)), (43, pu (isB true)), (44, pu (isV (.int .i64 (decC (encS (pmul (lowN (strOfNums [(n : Int)])) (someP (s)))))))), (45, pu (isB true)), (46, pu (isB true)), (47, pu (isB true)), (48, pu (PtV (decP (encS (pmul (lowN (strOfNums [(n : Int)])) (someP (s))))))), (49, pu (PtV (pmul (lowN (strOfNums [(n : Int)])) (someP (s))))), (50, pu (isB true)), (51, pu (isB true)), (52, pu (isB true)), (53, pu (PtV (decP (encS (pmul (lowN (strOfNums [(n : Int)])) (someP (s))))))), (54, pu (isS (encS (decP (encS (pmul (lowN (strOfNums [(n : Int)])) (someP (s)))))))), (55, pu (isS (encS (pmul (lowN (strOfNums [(n : Int)])) (someP (s)))))), (56, pu (isB true)), (57, pu (isB true)), (58, pu (isB true)), (59, pu (PtV (someP (s)))), (60, pu (PtV (someP (s)))), (61, pu (PtV (padd (someP (s)) (someP (s))))), (62, pu (PtV (someP (s)))), (63, pu (PtV (pmul (lowN (⟨#[2]⟩)) (someP (s))))), (64, pu (isB true)), (65, pu (isB true)), (66, pu (isB true)), (67, pu (PtV (pmul (lowN (strOfNums [(n : Int)])) (someP (s))))), (68, pu (PtV (pneg (pmul (lowN (strOfNums [(n : Int)])) (someP (s)))))), (69, pu (PtV (someP (s)))), (70, pu (PtV (pneg (someP (s))))), (71, pu (isV (.int .u8 ((n : Int))))), (72, sl1 ((n : Int))), (73, pu (isS (strOfNums [(n : Int)]))), (74, pu (PtV (pmul (lowN (strOfNums [(n : Int)])) (pneg (someP (s)))))), (75, pu (isB true)), (76, pu (isB true)), (77, pu (isB true)), (78, pu (isB true)), (79, pu (isB true))]) (by kernel_rfl) 43 [] (fun d _ _ _ _ h => by cases d <;> exact h) (by intro l hl; cases hl) [5, 7, 8, 9, 10, 11, 12] [38, 39, 40, 41, 42, 43, 44, 45, 46, 47, 48, 49, 50, 51, 52, 53, 54, 55, 56, 57, 58, 59, 60, 61, 62, 63, 64, 65, 66, 67, 68, 69, 70, 71, 72, 73, 74, 75, 76, 77, 78, 79, 4] [4] [] (by kernel_rfl) (by kernel_rfl) (by kernel_rfl) (by kernel_rfl) (by kernel_rfl) (by kernel_rfl) ⟨rfl, rfl, rfl, rfl, rfl, rfl, rfl, trivial⟩ ?_ ?_
  · refine FStepsX.cons rfl (FStepW.plain rfl fun a w hS hE => OpTo.rdP 38 (.tmp 9) rfl rfl (g9) (hE 9 (by kernel_rfl)) (B9.out.touch hS notin_nil) P30.out (fun _ h => h)) ?_
    refine FStepsX.cons rfl (FStepW.plain rfl fun a w hS hE => OpTo.rdP 39 (.tmp 8) rfl rfl (g8) (hE 8 (by kernel_rfl)) (B8.out.touch hS notin_nil) P24.out (fun _ h => h)) ?_
    refine FStepsX.cons rfl (FStepW.plain rfl fun a w hS hE => OpTo.rdP 40 (.tmp 5) rfl rfl (g5) (hE 5 (by kernel_rfl)) (B5.out.touch hS notin_nil) P16.out (fun _ h => h)) ?_
    refine FStepsX.cons rfl (FStepW.plain rfl fun a w hS hE => OpTo.call #[a.tmps.getD 39 undef, a.tmps.getD 40 undef] rfl Try.func15 (by kernel_rfl) (by kernel_rfl) (args2 ..) ((padd_v (hE 39 (by kernel_rfl)) (hE 40 (by kernel_rfl)) w).mono fun _ _ h => Gives.toW 41 rfl (fun _ _ h => h) h)) ?_
    refine FStepsX.cons rfl (FStepW.plain rfl fun a w hS hE => OpTo.call #[a.tmps.getD 38 undef, a.tmps.getD 41 undef] rfl Try.func19 (by kernel_rfl) (by kernel_rfl) (args2 ..) ((psame_b (hE 38 (by kernel_rfl)) (hE 41 (by kernel_rfl)) (samePt_of (by rw [L1.out, L2.out]; rfl)) w).mono fun _ _ h => Gives.toW 42 rfl (fun _ _ h => h) h)) ?_
    refine FStepsX.cons rfl (FStepW.plain rfl fun a w hS hE => OpTo.move rfl ⟨dOfW.of 43 rfl (hE 42 (by kernel_rfl)), Touch.refl _ _⟩) ?_
    refine FStepsX.cons rfl (FStepW.go 43 rfl rfl (fun _ _ h => h) fun a w hS hE => OpTo.move rfl ⟨dOfW.of 44 rfl (hE 12 (by kernel_rfl)), Touch.refl _ _⟩) ?_
    refine FStepsX.cons rfl (FStepW.go 43 rfl rfl (fun _ _ h => h) fun a w hS hE => OpTo.eqI .i64 (decC (encS (pmul (lowN (strOfNums [(n : Int)])) (someP (s))))) (0) rfl (hE 44 (by kernel_rfl)) rfl ⟨dOfW.of 45 rfl (by rw [(decide_eq_true (decC_yes (dec_enc _).1))]; rfl), Touch.refl _ _⟩) ?_
    refine FStepsX.cons rfl (FStepW.plain rfl fun a w hS hE => OpTo.pick true rfl (hE 43 (by kernel_rfl)) ⟨dOfW.of 46 rfl (hE 45 (by kernel_rfl)), Touch.refl _ _⟩) ?_
    refine FStepsX.cons rfl (FStepW.plain rfl fun a w hS hE => OpTo.move rfl ⟨dOfW.of 47 rfl (hE 46 (by kernel_rfl)), Touch.refl _ _⟩) ?_
    refine FStepsX.cons rfl (FStepW.go 47 rfl rfl (fun _ _ h => h) fun a w hS hE => OpTo.rdP 48 (.tmp 11) rfl rfl (g11) (hE 11 (by kernel_rfl)) (B11.out.touch hS notin_nil) P36.out (fun _ h => h)) ?_
    refine FStepsX.cons rfl (FStepW.go 47 rfl rfl (fun _ _ h => h) fun a w hS hE => OpTo.rdP 49 (.tmp 8) rfl rfl (g8) (hE 8 (by kernel_rfl)) (B8.out.touch hS notin_nil) P24.out (fun _ h => h)) ?_
    refine FStepsX.cons rfl (FStepW.go 47 rfl rfl (fun _ _ h => h) fun a w hS hE => OpTo.call #[a.tmps.getD 48 undef, a.tmps.getD 49 undef] rfl Try.func19 (by kernel_rfl) (by kernel_rfl) (args2 ..) ((psame_b (hE 48 (by kernel_rfl)) (hE 49 (by kernel_rfl)) (samePt_of ((dec_enc _).2)) w).mono fun _ _ h => Gives.toW 50 rfl (fun _ _ h => h) h)) ?_
    refine FStepsX.cons rfl (FStepW.plain rfl fun a w hS hE => OpTo.pick true rfl (hE 47 (by kernel_rfl)) ⟨dOfW.of 51 rfl (hE 50 (by kernel_rfl)), Touch.refl _ _⟩) ?_
    refine FStepsX.cons rfl (FStepW.plain rfl fun a w hS hE => OpTo.move rfl ⟨dOfW.of 52 rfl (hE 51 (by kernel_rfl)), Touch.refl _ _⟩) ?_
    refine FStepsX.cons rfl (FStepW.go 52 rfl rfl (fun _ _ h => h) fun a w hS hE => OpTo.rdP 53 (.tmp 11) rfl rfl (g11) (hE 11 (by kernel_rfl)) (B11.out.touch hS notin_nil) P36.out (fun _ h => h)) ?_
    refine FStepsX.cons rfl (FStepW.go 52 rfl rfl (fun _ _ h => h) fun a w hS hE => OpTo.call #[a.tmps.getD 53 undef] rfl Try.func11 (by kernel_rfl) (by kernel_rfl) (args1 ..) ((penc_v (hE 53 (by kernel_rfl)) w).mono fun _ _ h => Gives.toW 54 rfl (fun _ _ h => h) h)) ?_
    refine FStepsX.cons rfl (FStepW.go 52 rfl rfl (fun _ _ h => h) fun a w hS hE => OpTo.move rfl ⟨dOfW.of 55 rfl (hE 10 (by kernel_rfl)), Touch.refl _ _⟩) ?_
    refine FStepsX.cons rfl (FStepW.go 52 rfl rfl (fun _ _ h => h) fun a w hS hE => OpTo.eqS (encS (decP (encS (pmul (lowN (strOfNums [(n : Int)])) (someP (s)))))) (encS (pmul (lowN (strOfNums [(n : Int)])) (someP (s)))) rfl (hE 54 (by kernel_rfl)) (hE 55 (by kernel_rfl)) ⟨dOfW.of 56 rfl (by rw [(str_of (congrArg encS (dec_enc _).2))]; rfl), Touch.refl _ _⟩) ?_
    refine FStepsX.cons rfl (FStepW.plain rfl fun a w hS hE => OpTo.pick true rfl (hE 52 (by kernel_rfl)) ⟨dOfW.of 57 rfl (hE 56 (by kernel_rfl)), Touch.refl _ _⟩) ?_
    refine FStepsX.cons rfl (FStepW.plain rfl fun a w hS hE => OpTo.move rfl ⟨dOfW.of 58 rfl (hE 57 (by kernel_rfl)), Touch.refl _ _⟩) ?_
    refine FStepsX.cons rfl (FStepW.go 58 rfl rfl (fun _ _ h => h) fun a w hS hE => OpTo.rdP 59 (.tmp 5) rfl rfl (g5) (hE 5 (by kernel_rfl)) (B5.out.touch hS notin_nil) P16.out (fun _ h => h)) ?_
    refine FStepsX.cons rfl (FStepW.go 58 rfl rfl (fun _ _ h => h) fun a w hS hE => OpTo.rdP 60 (.tmp 5) rfl rfl (g5) (hE 5 (by kernel_rfl)) (B5.out.touch hS notin_nil) P16.out (fun _ h => h)) ?_
    refine FStepsX.cons rfl (FStepW.go 58 rfl rfl (fun _ _ h => h) fun a w hS hE => OpTo.call #[a.tmps.getD 59 undef, a.tmps.getD 60 undef] rfl Try.func15 (by kernel_rfl) (by kernel_rfl) (args2 ..) ((padd_v (hE 59 (by kernel_rfl)) (hE 60 (by kernel_rfl)) w).mono fun _ _ h => Gives.toW 61 rfl (fun _ _ h => h) h)) ?_
    refine FStepsX.cons rfl (FStepW.go 58 rfl rfl (fun _ _ h => h) fun a w hS hE => OpTo.rdP 62 (.tmp 5) rfl rfl (g5) (hE 5 (by kernel_rfl)) (B5.out.touch hS notin_nil) P16.out (fun _ h => h)) ?_
    refine FStepsX.cons rfl (FStepW.go 58 rfl rfl (fun _ _ h => h) fun a w hS hE => OpTo.call #[a.tmps.getD 62 undef, .string ⟨#[2]⟩] rfl Try.func21 (by kernel_rfl) (by kernel_rfl) (args2 ..) ((pmul_v (hE 62 (by kernel_rfl)) (Eq.refl (Value.string ⟨#[2]⟩)) w).mono fun _ _ h => Gives.toW 63 rfl (fun _ _ h => h) h)) ?_
    refine FStepsX.cons rfl (FStepW.go 58 rfl rfl (fun _ _ h => h) fun a w hS hE => OpTo.call #[a.tmps.getD 61 undef, a.tmps.getD 63 undef] rfl Try.func19 (by kernel_rfl) (by kernel_rfl) (args2 ..) ((psame_b (hE 61 (by kernel_rfl)) (hE 63 (by kernel_rfl)) (samePt_of (by rw [show lowN ⟨#[2]⟩ = 2 by decide +kernel, pmul_2])) w).mono fun _ _ h => Gives.toW 64 rfl (fun _ _ h => h) h)) ?_
    refine FStepsX.cons rfl (FStepW.plain rfl fun a w hS hE => OpTo.pick true rfl (hE 58 (by kernel_rfl)) ⟨dOfW.of 65 rfl (hE 64 (by kernel_rfl)), Touch.refl _ _⟩) ?_
    refine FStepsX.cons rfl (FStepW.plain rfl fun a w hS hE => OpTo.move rfl ⟨dOfW.of 66 rfl (hE 65 (by kernel_rfl)), Touch.refl _ _⟩) ?_
    refine FStepsX.cons rfl (FStepW.go 66 rfl rfl (fun _ _ h => h) fun a w hS hE => OpTo.rdP 67 (.tmp 8) rfl rfl (g8) (hE 8 (by kernel_rfl)) (B8.out.touch hS notin_nil) P24.out (fun _ h => h)) ?_
    refine FStepsX.cons rfl (FStepW.go 66 rfl rfl (fun _ _ h => h) fun a w hS hE => OpTo.call #[a.tmps.getD 67 undef] rfl Try.func17 (by kernel_rfl) (by kernel_rfl) (args1 ..) ((pneg_v (hE 67 (by kernel_rfl)) w).mono fun _ _ h => Gives.toW 68 rfl (fun _ _ h => h) h)) ?_
    refine FStepsX.cons rfl (FStepW.go 66 rfl rfl (fun _ _ h => h) fun a w hS hE => OpTo.rdP 69 (.tmp 5) rfl rfl (g5) (hE 5 (by kernel_rfl)) (B5.out.touch hS notin_nil) P16.out (fun _ h => h)) ?_
    refine FStepsX.cons rfl (FStepW.go 66 rfl rfl (fun _ _ h => h) fun a w hS hE => OpTo.call #[a.tmps.getD 69 undef] rfl Try.func17 (by kernel_rfl) (by kernel_rfl) (args1 ..) ((pneg_v (hE 69 (by kernel_rfl)) w).mono fun _ _ h => Gives.toW 70 rfl (fun _ _ h => h) h)) ?_
    refine FStepsX.cons rfl (FStepW.go 66 rfl rfl (fun _ _ h => h) fun a w hS hE => OpTo.move rfl ⟨dOfW.of 71 rfl (hE 7 (by kernel_rfl)), Touch.refl _ _⟩) ?_
    refine FStepsX.cons rfl (FStepW.go 66 rfl rfl (fun _ _ h => h) fun a w hS hE => OpTo.one ((n : Int)) rfl (hE 71 (by kernel_rfl)) (fun _ _ h => dOfW.of 72 rfl h)) ?_
    refine FStepsX.cons rfl (FStepW.go 66 rfl rfl (fun _ _ h => h) fun a w hS hE => OpTo.str1 ((n : Int)) rfl (hE 72 (by kernel_rfl)) (dOfW.of 73 rfl rfl)) ?_
    refine FStepsX.cons rfl (FStepW.go 66 rfl rfl (fun _ _ h => h) fun a w hS hE => OpTo.call #[a.tmps.getD 70 undef, a.tmps.getD 73 undef] rfl Try.func21 (by kernel_rfl) (by kernel_rfl) (args2 ..) ((pmul_v (hE 70 (by kernel_rfl)) (hE 73 (by kernel_rfl)) w).mono fun _ _ h => Gives.toW 74 rfl (fun _ _ h => h) h)) ?_
    refine FStepsX.cons rfl (FStepW.go 66 rfl rfl (fun _ _ h => h) fun a w hS hE => OpTo.call #[a.tmps.getD 68 undef, a.tmps.getD 74 undef] rfl Try.func19 (by kernel_rfl) (by kernel_rfl) (args2 ..) ((psame_b (hE 68 (by kernel_rfl)) (hE 74 (by kernel_rfl)) (samePt_of ((ed.mul_neg _ _).symm)) w).mono fun _ _ h => Gives.toW 75 rfl (fun _ _ h => h) h)) ?_
    refine FStepsX.cons rfl (FStepW.plain rfl fun a w hS hE => OpTo.pick true rfl (hE 66 (by kernel_rfl)) ⟨dOfW.of 76 rfl (hE 75 (by kernel_rfl)), Touch.refl _ _⟩) ?_
    refine FStepsX.cons rfl (FStepW.plain rfl fun a w hS hE => OpTo.move rfl ⟨dOfW.of 77 rfl (hE 76 (by kernel_rfl)), Touch.refl _ _⟩) ?_
    refine FStepsX.cons rfl (FStepW.go 77 rfl rfl (fun _ _ h => h) fun a w hS hE => OpTo.call #[] rfl Try.func13 (by kernel_rfl) (by kernel_rfl) (args0 ..) ((fixed_v w).mono fun _ _ h => Gives.toW 78 rfl (fun _ _ h => h) h)) ?_
    refine FStepsX.cons rfl (FStepW.plain rfl fun a w hS hE => OpTo.pick true rfl (hE 77 (by kernel_rfl)) ⟨dOfW.of 79 rfl (hE 78 (by kernel_rfl)), Touch.refl _ _⟩) ?_
    refine FStepsX.cons rfl (FStepW.plain rfl fun a w hS hE => OpTo.assign rfl ⟨dOfW.of 4 rfl (hE 79 (by kernel_rfl)), Touch.refl _ _⟩) ?_
    exact FStepsX.nil
  intro f w10 hS hF hA
  obtain ⟨h4, -⟩ := hF
  have e4 : f 4 = .bool true := h4
  clear h4
  clear hA
  replace B5 := Lib.hid (B5.out.touch hS notin_nil)
  replace B8 := Lib.hid (B8.out.touch hS notin_nil)
  replace B9 := Lib.hid (B9.out.touch hS notin_nil)
  replace B11 := Lib.hid (B11.out.touch hS notin_nil)
  replace HT := Lib.hid (HT.out.trans hS)
  clear hS
  simp only [setAll, List.setIfInBounds_toArray, List.set_cons_zero, List.set_cons_succ, e4]
  show wpList _ _ _ [] _ _
  refine wpList_nil ?_
  clear e4
  go_wp2_with fail
  go_ret
  exact ⟨rfl, HT.out⟩
theorem psteps_int (s : ByteArray) (k : Int) (hk : 0 ≤ k ∧ k < 256) (w : World) : Calls Try.prog 8 #[.string s, .int .u8 k] w fun e w' => e = .returned (.bool true) ∧ Touch [] w w' := by
  obtain ⟨m, rfl⟩ := Int.eq_ofNat_of_zero_le hk.1
  exact psteps_walk s m (by omega) w
end Go.Proofs.Ytbgpgbfiadhddaa
