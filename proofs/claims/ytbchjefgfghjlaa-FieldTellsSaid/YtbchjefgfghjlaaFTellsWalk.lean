/- syngraphlaw04.FieldTells: the walk. -/
import Derived.Test.YtbchjefgfghjlaaElem
import Derived.Test.YtbchjefgfghjlaaFLaws
import Derived.Test.YtbchjefgfghjlaaFixed04
import Derived.Test.YtbchjefgfghjlaaSeqFlow
import Derived.Test.YtbchjefgfghjlaaFField
import Derived.Test.YtbchjefgfghjlaaRefV
namespace Go.Proofs.Ytbchjefgfghjlaa
open Go.RowKit
set_option maxRecDepth 100000 in
set_option maxHeartbeats 4000000 in
theorem ftells_walk (hfix : FixedOk) (a b : ByteArray) (w : World) : Calls Try.prog 3 #[.string a, .string b] w fun e w' => e = .returned (.bool true) ∧ Touch [] w w' := by
  obtain ⟨X, hX⟩ : ∃ n, n = cutN a := ⟨_, rfl⟩
  have HX := Lib.hid hX.symm
  have lX : X < PP := hX ▸ cutN_lt _
  clear hX
  obtain ⟨Y, hY⟩ : ∃ n, n = cutN b := ⟨_, rfl⟩
  have HY := Lib.hid hY.symm
  have lY : Y < PP := hY ▸ cutN_lt _
  clear hY
  have LX := Lib.hid lX
  have LY := Lib.hid lY
  have K65 := Lib.hid (toS_beq lX lY)
  have K80 := Lib.hid (toS_beq lX PP_pos)
  clear lX lY
  have HT := Lib.hid (Touch.refl [] w)
  go_enter Try.func3, Try.ntmps3
  go_wp2_with fail
  refine (cut_anyE a _).mono ?_
  rintro e wp1 ⟨p, hp, hfp, rfl, ht⟩
  have Rp := Lib.hid hp
  have Fp := Lib.hid (show fe p = X by rw [hfp, HX.out])
  replace HT := Lib.hid (HT.out.trans ht)
  clear hp hfp ht
  go_wp2_with fail
  refine (cut_anyE b _).mono ?_
  rintro e wq2 ⟨q, hq, hfq, rfl, ht⟩
  have Rq := Lib.hid hq
  have Fq := Lib.hid (show fe q = Y by rw [hfq, HY.out])
  replace HT := Lib.hid (HT.out.trans ht)
  clear hq hfq ht
  go_upto_region 2 with (first | (refine wpList_storeE rfl (.tmp 5) (.tmp 10) rfl (wq2.heap.size) rfl p rfl 24 _ Rp.out.len rfl (z2_0 wq2) ?_) | (refine wpList_storeE rfl (.tmp 6) (.tmp 12) rfl (wq2.heap.size + 1) rfl q rfl 24 _ Rq.out.len rfl (Blk.frow (z2_1 wq2) (by omega) _) ?_))
  obtain ⟨bp, bq, bt⟩ := boxed2 wq2 p q
  obtain ⟨w3, hw3⟩ : ∃ w3, w3 = ((((wq2.alloc (.cells #[.int .i64 0, .int .i64 0, .int .i64 0, .int .i64 0, .int .i64 0, .int .i64 0, .int .i64 0, .int .i64 0, .int .i64 0, .int .i64 0, .int .i64 0, .int .i64 0, .int .i64 0, .int .i64 0, .int .i64 0, .int .i64 0] 24)).alloc (.cells #[.int .i64 0, .int .i64 0, .int .i64 0, .int .i64 0, .int .i64 0, .int .i64 0, .int .i64 0, .int .i64 0, .int .i64 0, .int .i64 0, .int .i64 0, .int .i64 0, .int .i64 0, .int .i64 0, .int .i64 0, .int .i64 0] 24)).setRow (wq2.heap.size) (cellsZ p).toArray).setRow (wq2.heap.size + 1) (cellsZ q).toArray) := ⟨_, rfl⟩
  obtain ⟨g3, hg⟩ : ∃ g3, g3 = wq2.heap.size := ⟨_, rfl⟩
  rw [← hw3, ← hg] at bp bq
  rw [← hw3] at bt ⊢
  rw [← hg]
  replace HT := Lib.hid (HT.out.trans bt)
  have Bp := Lib.hid bp
  have ilp := Lib.hid (infoL Rp.out)
  have Bq := Lib.hid bq
  have ilq := Lib.hid (infoL Rq.out)
  clear bp bq bt hw3 hg
  go_wp2_with fail
  refine (refCut_c a _).mono ?_
  rintro e ws4 ⟨rfl, ht⟩
  replace Bp := Lib.hid (Bp.out.touch ht (by simp))
  replace Bq := Lib.hid (Bq.out.touch ht (by simp))
  replace HT := Lib.hid (HT.out.trans ht)
  clear ht
  rw [HX.out]
  go_wp2_with fail
  refine (refCut_c b _).mono ?_
  rintro e ws5 ⟨rfl, ht⟩
  replace Bp := Lib.hid (Bp.out.touch ht (by simp))
  replace Bq := Lib.hid (Bq.out.touch ht (by simp))
  replace HT := Lib.hid (HT.out.trans ht)
  clear ht
  rw [HY.out]
  go_upto_region 3 with fail
  have rgp := Lib.hid (range_far Bp.out)
  have rgq := Lib.hid (range_far Bq.out)
  refine wp_region_list (wpList_flow (fun W => Touch [] ws5 W) (look [(4, isB true), (5, isP (g3)), (6, isP (g3 + 1)), (7, isS (toS (X))), (8, isS (toS (Y))), (17, EV (X)), (18, isS (toS (X))), (19, isS (toS (X))), (20, isB true), (21, isB true), (22, EV (X)), (23, EV (Y)), (24, EV (addF (X) (Y))), (25, isS (toS (addF (X) (Y)))), (26, isS (toS (X))), (27, isS (toS (Y))), (28, isS (toS (addF (X) (Y)))), (29, isB true), (30, isB true), (31, isB true), (32, EV (X)), (33, EV (Y)), (34, EV (subF (X) (Y))), (35, isS (toS (subF (X) (Y)))), (36, isS (toS (X))), (37, isS (toS (Y))), (38, isS (toS (subF (X) (Y)))), (39, isB true), (40, isB true), (41, isB true), (42, EV (X)), (43, EV (Y)), (44, EV (mulF (X) (Y))), (45, isS (toS (mulF (X) (Y)))), (46, isS (toS (X))), (47, isS (toS (Y))), (48, isS (toS (mulF (X) (Y)))), (49, isB true), (50, isB true), (51, isB true), (52, EV (X)), (53, EV (negF (X))), (54, isS (toS (negF (X)))), (55, isS (toS (X))), (56, isS (toS (negF (X)))), (57, isB true), (58, isB true), (59, isB true), (60, EV (X)), (61, EV (Y)), (62, isB (decide (X = Y))), (63, isS (toS (X))), (64, isS (toS (Y))), (65, isB (decide (X = Y))), (66, isB true), (67, isB true), (68, isB true), (69, EV (X)), (70, isB (decide (X % 2 = 1))), (71, isS (toS (X))), (72, isB (decide (X % 2 = 1))), (73, isB true), (74, isB true), (75, isB true), (76, EV (X)), (77, isB (decide (X = 0))), (78, isS (toS (X))), (79, isS (toS (0))), (80, isB (decide (X = 0))), (81, isB true), (82, isB true), (83, isB true), (84, isB true), (85, isB true)]) [5, 6, 7, 8] [17, 18, 19, 20, 21, 22, 23, 24, 25, 26, 27, 28, 29, 30, 31, 32, 33, 34, 35, 36, 37, 38, 39, 40, 41, 42, 43, 44, 45, 46, 47, 48, 49, 50, 51, 52, 53, 54, 55, 56, 57, 58, 59, 60, 61, 62, 63, 64, 65, 66, 67, 68, 69, 70, 71, 72, 73, 74, 75, 76, 77, 78, 79, 80, 81, 82, 83, 84, 85, 4] [4] (by kernel_rfl) (by kernel_rfl) (by kernel_rfl) (by first | exact Touch.refl _ _ | assumption) ⟨rfl, rfl, rfl, rfl, trivial⟩ ?_ ?_)
  · refine FSteps.cons (FStep.plain rfl fun a w hS hE => OpTo.row _ (.tmp 5) rfl (g3) (hE 5 (by kernel_rfl)) (cellsZ p) _ (rgp.out w hS) Try.underlying24 rfl ilp.out ⟨dOf.of 17 rfl ⟨p, Rp.out, Fp.out, rfl⟩, hS⟩) ?_
    refine FSteps.cons (FStep.plain rfl fun a w hS hE => OpTo.call #[a.tmps.getD 17 undef] rfl Try.func13 (by kernel_rfl) (by kernel_rfl) (args1 ..) ((bytes_v (hE 17 (by kernel_rfl)) w).mono fun _ _ h => Gives.to hS 18 rfl (fun _ h => h) h)) ?_
    refine FSteps.cons (FStep.plain rfl fun a w hS hE => OpTo.move rfl ⟨dOf.of 19 rfl (hE 7 (by kernel_rfl)), hS⟩) ?_
    refine FSteps.cons (FStep.plain rfl fun a w hS hE => OpTo.eqS (toS (X)) (toS (X)) rfl (hE 18 (by kernel_rfl)) (hE 19 (by kernel_rfl)) ⟨dOf.of 20 rfl (by rw [(beq_self_eq_true (toS (X)).toList)]; rfl), hS⟩) ?_
    refine FSteps.cons (FStep.plain rfl fun a w hS hE => OpTo.move rfl ⟨dOf.of 21 rfl (hE 20 (by kernel_rfl)), hS⟩) ?_
    refine FSteps.cons (FStep.go 21 rfl rfl (fun _ h => h) fun a w hS hE => OpTo.row _ (.tmp 5) rfl (g3) (hE 5 (by kernel_rfl)) (cellsZ p) _ (rgp.out w hS) Try.underlying24 rfl ilp.out ⟨dOf.of 22 rfl ⟨p, Rp.out, Fp.out, rfl⟩, hS⟩) ?_
    refine FSteps.cons (FStep.go 21 rfl rfl (fun _ h => h) fun a w hS hE => OpTo.row _ (.tmp 6) rfl (g3 + 1) (hE 6 (by kernel_rfl)) (cellsZ q) _ (rgq.out w hS) Try.underlying24 rfl ilq.out ⟨dOf.of 23 rfl ⟨q, Rq.out, Fq.out, rfl⟩, hS⟩) ?_
    refine FSteps.cons (FStep.go 21 rfl rfl (fun _ h => h) fun a w hS hE => OpTo.call #[a.tmps.getD 22 undef, a.tmps.getD 23 undef] rfl Try.func14 (by kernel_rfl) (by kernel_rfl) (args2 ..) ((add_v (hE 22 (by kernel_rfl)) (hE 23 (by kernel_rfl)) w).mono fun _ _ h => Gives.to hS 24 rfl (fun _ h => h) h)) ?_
    refine FSteps.cons (FStep.go 21 rfl rfl (fun _ h => h) fun a w hS hE => OpTo.call #[a.tmps.getD 24 undef] rfl Try.func13 (by kernel_rfl) (by kernel_rfl) (args1 ..) ((bytes_v (hE 24 (by kernel_rfl)) w).mono fun _ _ h => Gives.to hS 25 rfl (fun _ h => h) h)) ?_
    refine FSteps.cons (FStep.go 21 rfl rfl (fun _ h => h) fun a w hS hE => OpTo.move rfl ⟨dOf.of 26 rfl (hE 7 (by kernel_rfl)), hS⟩) ?_
    refine FSteps.cons (FStep.go 21 rfl rfl (fun _ h => h) fun a w hS hE => OpTo.move rfl ⟨dOf.of 27 rfl (hE 8 (by kernel_rfl)), hS⟩) ?_
    refine FSteps.cons (FStep.go 21 rfl rfl (fun _ h => h) fun a w hS hE => OpTo.call #[a.tmps.getD 26 undef, a.tmps.getD 27 undef] rfl Try.func15 (by kernel_rfl) (by kernel_rfl) (args2 ..) ((radd_v (hE 26 (by kernel_rfl)) (hE 27 (by kernel_rfl)) LX.out LY.out w).mono fun _ _ h => Gives.to hS 28 rfl (fun _ h => h) h)) ?_
    refine FSteps.cons (FStep.go 21 rfl rfl (fun _ h => h) fun a w hS hE => OpTo.eqS (toS (addF (X) (Y))) (toS (addF (X) (Y))) rfl (hE 25 (by kernel_rfl)) (hE 28 (by kernel_rfl)) ⟨dOf.of 29 rfl (by rw [(beq_self_eq_true (toS (addF (X) (Y))).toList)]; rfl), hS⟩) ?_
    refine FSteps.cons (FStep.plain rfl fun a w hS hE => OpTo.pick true rfl (hE 21 (by kernel_rfl)) ⟨dOf.of 30 rfl (hE 29 (by kernel_rfl)), hS⟩) ?_
    refine FSteps.cons (FStep.plain rfl fun a w hS hE => OpTo.move rfl ⟨dOf.of 31 rfl (hE 30 (by kernel_rfl)), hS⟩) ?_
    refine FSteps.cons (FStep.go 31 rfl rfl (fun _ h => h) fun a w hS hE => OpTo.row _ (.tmp 5) rfl (g3) (hE 5 (by kernel_rfl)) (cellsZ p) _ (rgp.out w hS) Try.underlying24 rfl ilp.out ⟨dOf.of 32 rfl ⟨p, Rp.out, Fp.out, rfl⟩, hS⟩) ?_
    refine FSteps.cons (FStep.go 31 rfl rfl (fun _ h => h) fun a w hS hE => OpTo.row _ (.tmp 6) rfl (g3 + 1) (hE 6 (by kernel_rfl)) (cellsZ q) _ (rgq.out w hS) Try.underlying24 rfl ilq.out ⟨dOf.of 33 rfl ⟨q, Rq.out, Fq.out, rfl⟩, hS⟩) ?_
    refine FSteps.cons (FStep.go 31 rfl rfl (fun _ h => h) fun a w hS hE => OpTo.call #[a.tmps.getD 32 undef, a.tmps.getD 33 undef] rfl Try.func16 (by kernel_rfl) (by kernel_rfl) (args2 ..) ((sub_v (hE 32 (by kernel_rfl)) (hE 33 (by kernel_rfl)) w).mono fun _ _ h => Gives.to hS 34 rfl (fun _ h => h) h)) ?_
    refine FSteps.cons (FStep.go 31 rfl rfl (fun _ h => h) fun a w hS hE => OpTo.call #[a.tmps.getD 34 undef] rfl Try.func13 (by kernel_rfl) (by kernel_rfl) (args1 ..) ((bytes_v (hE 34 (by kernel_rfl)) w).mono fun _ _ h => Gives.to hS 35 rfl (fun _ h => h) h)) ?_
    refine FSteps.cons (FStep.go 31 rfl rfl (fun _ h => h) fun a w hS hE => OpTo.move rfl ⟨dOf.of 36 rfl (hE 7 (by kernel_rfl)), hS⟩) ?_
    refine FSteps.cons (FStep.go 31 rfl rfl (fun _ h => h) fun a w hS hE => OpTo.move rfl ⟨dOf.of 37 rfl (hE 8 (by kernel_rfl)), hS⟩) ?_
    refine FSteps.cons (FStep.go 31 rfl rfl (fun _ h => h) fun a w hS hE => OpTo.call #[a.tmps.getD 36 undef, a.tmps.getD 37 undef] rfl Try.func17 (by kernel_rfl) (by kernel_rfl) (args2 ..) ((rsub_v (hE 36 (by kernel_rfl)) (hE 37 (by kernel_rfl)) LX.out LY.out w).mono fun _ _ h => Gives.to hS 38 rfl (fun _ h => h) h)) ?_
    refine FSteps.cons (FStep.go 31 rfl rfl (fun _ h => h) fun a w hS hE => OpTo.eqS (toS (subF (X) (Y))) (toS (subF (X) (Y))) rfl (hE 35 (by kernel_rfl)) (hE 38 (by kernel_rfl)) ⟨dOf.of 39 rfl (by rw [(beq_self_eq_true (toS (subF (X) (Y))).toList)]; rfl), hS⟩) ?_
    refine FSteps.cons (FStep.plain rfl fun a w hS hE => OpTo.pick true rfl (hE 31 (by kernel_rfl)) ⟨dOf.of 40 rfl (hE 39 (by kernel_rfl)), hS⟩) ?_
    refine FSteps.cons (FStep.plain rfl fun a w hS hE => OpTo.move rfl ⟨dOf.of 41 rfl (hE 40 (by kernel_rfl)), hS⟩) ?_
    refine FSteps.cons (FStep.go 41 rfl rfl (fun _ h => h) fun a w hS hE => OpTo.row _ (.tmp 5) rfl (g3) (hE 5 (by kernel_rfl)) (cellsZ p) _ (rgp.out w hS) Try.underlying24 rfl ilp.out ⟨dOf.of 42 rfl ⟨p, Rp.out, Fp.out, rfl⟩, hS⟩) ?_
    refine FSteps.cons (FStep.go 41 rfl rfl (fun _ h => h) fun a w hS hE => OpTo.row _ (.tmp 6) rfl (g3 + 1) (hE 6 (by kernel_rfl)) (cellsZ q) _ (rgq.out w hS) Try.underlying24 rfl ilq.out ⟨dOf.of 43 rfl ⟨q, Rq.out, Fq.out, rfl⟩, hS⟩) ?_
    refine FSteps.cons (FStep.go 41 rfl rfl (fun _ h => h) fun a w hS hE => OpTo.call #[a.tmps.getD 42 undef, a.tmps.getD 43 undef] rfl Try.func18 (by kernel_rfl) (by kernel_rfl) (args2 ..) ((mul_v (hE 42 (by kernel_rfl)) (hE 43 (by kernel_rfl)) w).mono fun _ _ h => Gives.to hS 44 rfl (fun _ h => h) h)) ?_
    refine FSteps.cons (FStep.go 41 rfl rfl (fun _ h => h) fun a w hS hE => OpTo.call #[a.tmps.getD 44 undef] rfl Try.func13 (by kernel_rfl) (by kernel_rfl) (args1 ..) ((bytes_v (hE 44 (by kernel_rfl)) w).mono fun _ _ h => Gives.to hS 45 rfl (fun _ h => h) h)) ?_
    refine FSteps.cons (FStep.go 41 rfl rfl (fun _ h => h) fun a w hS hE => OpTo.move rfl ⟨dOf.of 46 rfl (hE 7 (by kernel_rfl)), hS⟩) ?_
    refine FSteps.cons (FStep.go 41 rfl rfl (fun _ h => h) fun a w hS hE => OpTo.move rfl ⟨dOf.of 47 rfl (hE 8 (by kernel_rfl)), hS⟩) ?_
    refine FSteps.cons (FStep.go 41 rfl rfl (fun _ h => h) fun a w hS hE => OpTo.call #[a.tmps.getD 46 undef, a.tmps.getD 47 undef] rfl Try.func19 (by kernel_rfl) (by kernel_rfl) (args2 ..) ((rmul_v (hE 46 (by kernel_rfl)) (hE 47 (by kernel_rfl)) LX.out LY.out w).mono fun _ _ h => Gives.to hS 48 rfl (fun _ h => h) h)) ?_
    refine FSteps.cons (FStep.go 41 rfl rfl (fun _ h => h) fun a w hS hE => OpTo.eqS (toS (mulF (X) (Y))) (toS (mulF (X) (Y))) rfl (hE 45 (by kernel_rfl)) (hE 48 (by kernel_rfl)) ⟨dOf.of 49 rfl (by rw [(beq_self_eq_true (toS (mulF (X) (Y))).toList)]; rfl), hS⟩) ?_
    refine FSteps.cons (FStep.plain rfl fun a w hS hE => OpTo.pick true rfl (hE 41 (by kernel_rfl)) ⟨dOf.of 50 rfl (hE 49 (by kernel_rfl)), hS⟩) ?_
    refine FSteps.cons (FStep.plain rfl fun a w hS hE => OpTo.move rfl ⟨dOf.of 51 rfl (hE 50 (by kernel_rfl)), hS⟩) ?_
    refine FSteps.cons (FStep.go 51 rfl rfl (fun _ h => h) fun a w hS hE => OpTo.row _ (.tmp 5) rfl (g3) (hE 5 (by kernel_rfl)) (cellsZ p) _ (rgp.out w hS) Try.underlying24 rfl ilp.out ⟨dOf.of 52 rfl ⟨p, Rp.out, Fp.out, rfl⟩, hS⟩) ?_
    refine FSteps.cons (FStep.go 51 rfl rfl (fun _ h => h) fun a w hS hE => OpTo.call #[a.tmps.getD 52 undef] rfl Try.func20 (by kernel_rfl) (by kernel_rfl) (args1 ..) ((neg_v (hE 52 (by kernel_rfl)) w).mono fun _ _ h => Gives.to hS 53 rfl (fun _ h => h) h)) ?_
    refine FSteps.cons (FStep.go 51 rfl rfl (fun _ h => h) fun a w hS hE => OpTo.call #[a.tmps.getD 53 undef] rfl Try.func13 (by kernel_rfl) (by kernel_rfl) (args1 ..) ((bytes_v (hE 53 (by kernel_rfl)) w).mono fun _ _ h => Gives.to hS 54 rfl (fun _ h => h) h)) ?_
    refine FSteps.cons (FStep.go 51 rfl rfl (fun _ h => h) fun a w hS hE => OpTo.move rfl ⟨dOf.of 55 rfl (hE 7 (by kernel_rfl)), hS⟩) ?_
    refine FSteps.cons (FStep.go 51 rfl rfl (fun _ h => h) fun a w hS hE => OpTo.call #[a.tmps.getD 55 undef] rfl Try.func21 (by kernel_rfl) (by kernel_rfl) (args1 ..) ((rneg_v (hE 55 (by kernel_rfl)) LX.out w).mono fun _ _ h => Gives.to hS 56 rfl (fun _ h => h) h)) ?_
    refine FSteps.cons (FStep.go 51 rfl rfl (fun _ h => h) fun a w hS hE => OpTo.eqS (toS (negF (X))) (toS (negF (X))) rfl (hE 54 (by kernel_rfl)) (hE 56 (by kernel_rfl)) ⟨dOf.of 57 rfl (by rw [(beq_self_eq_true (toS (negF (X))).toList)]; rfl), hS⟩) ?_
    refine FSteps.cons (FStep.plain rfl fun a w hS hE => OpTo.pick true rfl (hE 51 (by kernel_rfl)) ⟨dOf.of 58 rfl (hE 57 (by kernel_rfl)), hS⟩) ?_
    refine FSteps.cons (FStep.plain rfl fun a w hS hE => OpTo.move rfl ⟨dOf.of 59 rfl (hE 58 (by kernel_rfl)), hS⟩) ?_
    refine FSteps.cons (FStep.go 59 rfl rfl (fun _ h => h) fun a w hS hE => OpTo.row _ (.tmp 5) rfl (g3) (hE 5 (by kernel_rfl)) (cellsZ p) _ (rgp.out w hS) Try.underlying24 rfl ilp.out ⟨dOf.of 60 rfl ⟨p, Rp.out, Fp.out, rfl⟩, hS⟩) ?_
    refine FSteps.cons (FStep.go 59 rfl rfl (fun _ h => h) fun a w hS hE => OpTo.row _ (.tmp 6) rfl (g3 + 1) (hE 6 (by kernel_rfl)) (cellsZ q) _ (rgq.out w hS) Try.underlying24 rfl ilq.out ⟨dOf.of 61 rfl ⟨q, Rq.out, Fq.out, rfl⟩, hS⟩) ?_
    refine FSteps.cons (FStep.go 59 rfl rfl (fun _ h => h) fun a w hS hE => OpTo.call #[a.tmps.getD 60 undef, a.tmps.getD 61 undef] rfl Try.func22 (by kernel_rfl) (by kernel_rfl) (args2 ..) ((same_v (hE 60 (by kernel_rfl)) (hE 61 (by kernel_rfl)) (b := decide (X = Y)) rfl w).mono fun _ _ h => Gives.to hS 62 rfl (fun _ h => h) h)) ?_
    refine FSteps.cons (FStep.go 59 rfl rfl (fun _ h => h) fun a w hS hE => OpTo.move rfl ⟨dOf.of 63 rfl (hE 7 (by kernel_rfl)), hS⟩) ?_
    refine FSteps.cons (FStep.go 59 rfl rfl (fun _ h => h) fun a w hS hE => OpTo.move rfl ⟨dOf.of 64 rfl (hE 8 (by kernel_rfl)), hS⟩) ?_
    refine FSteps.cons (FStep.go 59 rfl rfl (fun _ h => h) fun a w hS hE => OpTo.eqS (toS (X)) (toS (Y)) rfl (hE 63 (by kernel_rfl)) (hE 64 (by kernel_rfl)) ⟨dOf.of 65 rfl (by rw [K65.out]; rfl), hS⟩) ?_
    refine FSteps.cons (FStep.go 59 rfl rfl (fun _ h => h) fun a w hS hE => OpTo.eqB Try.underlying4 (decide (X = Y)) (decide (X = Y)) rfl (hE 62 (by kernel_rfl)) (hE 65 (by kernel_rfl)) ⟨dOf.of 66 rfl (congrArg Value.bool (beq_self_eq_true _)), hS⟩) ?_
    refine FSteps.cons (FStep.plain rfl fun a w hS hE => OpTo.pick true rfl (hE 59 (by kernel_rfl)) ⟨dOf.of 67 rfl (hE 66 (by kernel_rfl)), hS⟩) ?_
    refine FSteps.cons (FStep.plain rfl fun a w hS hE => OpTo.move rfl ⟨dOf.of 68 rfl (hE 67 (by kernel_rfl)), hS⟩) ?_
    refine FSteps.cons (FStep.go 68 rfl rfl (fun _ h => h) fun a w hS hE => OpTo.row _ (.tmp 5) rfl (g3) (hE 5 (by kernel_rfl)) (cellsZ p) _ (rgp.out w hS) Try.underlying24 rfl ilp.out ⟨dOf.of 69 rfl ⟨p, Rp.out, Fp.out, rfl⟩, hS⟩) ?_
    refine FSteps.cons (FStep.go 68 rfl rfl (fun _ h => h) fun a w hS hE => OpTo.call #[a.tmps.getD 69 undef] rfl Try.func23 (by kernel_rfl) (by kernel_rfl) (args1 ..) ((odd_v (hE 69 (by kernel_rfl)) (b := decide (X % 2 = 1)) rfl w).mono fun _ _ h => Gives.to hS 70 rfl (fun _ h => h) h)) ?_
    refine FSteps.cons (FStep.go 68 rfl rfl (fun _ h => h) fun a w hS hE => OpTo.move rfl ⟨dOf.of 71 rfl (hE 7 (by kernel_rfl)), hS⟩) ?_
    refine FSteps.cons (FStep.go 68 rfl rfl (fun _ h => h) fun a w hS hE => OpTo.call #[a.tmps.getD 71 undef] rfl Try.func24 (by kernel_rfl) (by kernel_rfl) (args1 ..) ((rodd_v (hE 71 (by kernel_rfl)) w).mono fun _ _ h => Gives.to hS 72 rfl (fun _ h => h) h)) ?_
    refine FSteps.cons (FStep.go 68 rfl rfl (fun _ h => h) fun a w hS hE => OpTo.eqB Try.underlying4 (decide (X % 2 = 1)) (decide (X % 2 = 1)) rfl (hE 70 (by kernel_rfl)) (hE 72 (by kernel_rfl)) ⟨dOf.of 73 rfl (congrArg Value.bool (beq_self_eq_true _)), hS⟩) ?_
    refine FSteps.cons (FStep.plain rfl fun a w hS hE => OpTo.pick true rfl (hE 68 (by kernel_rfl)) ⟨dOf.of 74 rfl (hE 73 (by kernel_rfl)), hS⟩) ?_
    refine FSteps.cons (FStep.plain rfl fun a w hS hE => OpTo.move rfl ⟨dOf.of 75 rfl (hE 74 (by kernel_rfl)), hS⟩) ?_
    refine FSteps.cons (FStep.go 75 rfl rfl (fun _ h => h) fun a w hS hE => OpTo.row _ (.tmp 5) rfl (g3) (hE 5 (by kernel_rfl)) (cellsZ p) _ (rgp.out w hS) Try.underlying24 rfl ilp.out ⟨dOf.of 76 rfl ⟨p, Rp.out, Fp.out, rfl⟩, hS⟩) ?_
    refine FSteps.cons (FStep.go 75 rfl rfl (fun _ h => h) fun a w hS hE => OpTo.call #[a.tmps.getD 76 undef] rfl Try.func25 (by kernel_rfl) (by kernel_rfl) (args1 ..) ((zero_v (hE 76 (by kernel_rfl)) (b := decide (X = 0)) rfl w).mono fun _ _ h => Gives.to hS 77 rfl (fun _ h => h) h)) ?_
    refine FSteps.cons (FStep.go 75 rfl rfl (fun _ h => h) fun a w hS hE => OpTo.move rfl ⟨dOf.of 78 rfl (hE 7 (by kernel_rfl)), hS⟩) ?_
    refine FSteps.cons (FStep.go 75 rfl rfl (fun _ h => h) fun a w hS hE => OpTo.call #[.int .u64 0] rfl Try.func26 (by kernel_rfl) (by kernel_rfl) (args1 ..) ((rnum_v 0 (by decide) w).mono fun _ _ h => Gives.to hS 79 rfl (fun _ h => h) h)) ?_
    refine FSteps.cons (FStep.go 75 rfl rfl (fun _ h => h) fun a w hS hE => OpTo.eqS (toS (X)) (toS (0)) rfl (hE 78 (by kernel_rfl)) (hE 79 (by kernel_rfl)) ⟨dOf.of 80 rfl (by rw [K80.out]; rfl), hS⟩) ?_
    refine FSteps.cons (FStep.go 75 rfl rfl (fun _ h => h) fun a w hS hE => OpTo.eqB Try.underlying4 (decide (X = 0)) (decide (X = 0)) rfl (hE 77 (by kernel_rfl)) (hE 80 (by kernel_rfl)) ⟨dOf.of 81 rfl (congrArg Value.bool (beq_self_eq_true _)), hS⟩) ?_
    refine FSteps.cons (FStep.plain rfl fun a w hS hE => OpTo.pick true rfl (hE 75 (by kernel_rfl)) ⟨dOf.of 82 rfl (hE 81 (by kernel_rfl)), hS⟩) ?_
    refine FSteps.cons (FStep.plain rfl fun a w hS hE => OpTo.move rfl ⟨dOf.of 83 rfl (hE 82 (by kernel_rfl)), hS⟩) ?_
    refine FSteps.cons (FStep.go 83 rfl rfl (fun _ h => h) fun a w hS hE => OpTo.call #[] rfl Try.func27 (by kernel_rfl) (by kernel_rfl) (args0 ..) ((fixed_v hfix w).mono fun _ _ h => Gives.to hS 84 rfl (fun _ h => h) h)) ?_
    refine FSteps.cons (FStep.plain rfl fun a w hS hE => OpTo.pick true rfl (hE 83 (by kernel_rfl)) ⟨dOf.of 85 rfl (hE 84 (by kernel_rfl)), hS⟩) ?_
    refine FSteps.cons (FStep.plain rfl fun a w hS hE => OpTo.assign rfl ⟨dOf.of 4 rfl (hE 85 (by kernel_rfl)), hS⟩) ?_
    exact FSteps.nil
  intro f wx hS hF
  obtain ⟨h4, -⟩ := hF
  replace h4 : f 4 = .bool true := h4
  (try unfold Act.put)
  simp only [setAll, List.setIfInBounds_toArray, List.set_cons_zero, List.set_cons_succ, h4]
  replace Bp := Lib.hid (Bp.out.touch hS (by simp))
  replace Bq := Lib.hid (Bq.out.touch hS (by simp))
  replace HT := Lib.hid (HT.out.trans hS)
  clear hS rgp rgq h4
  rename World => w6
  
  go_wp2_with fail
  go_ret
  exact ⟨rfl, HT.out⟩
end Go.Proofs.Ytbchjefgfghjlaa
