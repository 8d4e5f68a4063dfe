/- syngraphlaw04.fixed answers true. -/
import Derived.Test.YtbchjefgfghjlaaFixed04a
namespace Go.Proofs.Ytbchjefgfghjlaa
open Go.RowKit
set_option maxRecDepth 100000 in
set_option maxHeartbeats 4000000 in
theorem fixed_ok : FixedOk := by
  intro w
  have K54 := Lib.hid (show decide (mulF 2 (invF 2) = 1) = true from decide_eq_true (mulF_invF (by decide) (by decide)))
  have K73 := Lib.hid (show decide (addF 2 (negF 2) = 0) = true from decide_eq_true (addF_negF (by decide)))
  have K81 := Lib.hid (show decide (2 % 2 = 1) = false from decide_eq_false (by decide))
  have K89 := Lib.hid (show decide (subF 5 2 = 3) = true from decide_eq_true (by decide))
  have K95 := Lib.hid (show decide (((toS 2).size : Int) = 32) = true from decide_eq_true (at_2.2.2))
  have K100 := Lib.hid at_2.1
  have L100 := Lib.hid at_2.2.1
  have HT := Lib.hid (Touch.refl [] w)
  go_enter Try.func27, Try.ntmps27
  go_wp2_with fail
  refine (of_lit ⟨#[2, 0, 0, 0, 0, 0, 0, 0, 0, 0, 0, 0, 0, 0, 0, 0, 0, 0, 0, 0, 0, 0, 0, 0, 0, 0, 0, 0, 0, 0, 0, 0]⟩ 0 2 of_2.1 of_2.2 _).mono ?_
  rintro e wp1 ⟨p, hp, hfp, rfl, ht⟩
  have Rp := Lib.hid hp
  have Fp := Lib.hid (show fe p = 2 by rw [hfp])
  replace HT := Lib.hid (HT.out.trans ht)
  clear hp hfp ht
  go_upto_region 2 with (first | (refine wpList_storeE rfl (.tmp 1) (.tmp 13) rfl (wp1.heap.size) rfl p rfl 24 _ Rp.out.len rfl (z1_0 wp1) ?_))
  obtain ⟨bp, bt⟩ := boxed1 wp1 p
  obtain ⟨w2, hw2⟩ : ∃ w2, w2 = ((wp1.alloc (.cells #[.int .i64 0, .int .i64 0, .int .i64 0, .int .i64 0, .int .i64 0, .int .i64 0, .int .i64 0, .int .i64 0, .int .i64 0, .int .i64 0, .int .i64 0, .int .i64 0, .int .i64 0, .int .i64 0, .int .i64 0, .int .i64 0] 24)).setRow (wp1.heap.size) (cellsZ p).toArray) := ⟨_, rfl⟩
  obtain ⟨g2, hg⟩ : ∃ g2, g2 = wp1.heap.size := ⟨_, rfl⟩
  rw [← hw2, ← hg] at bp
  rw [← hw2] at bt ⊢
  rw [← hg]
  replace HT := Lib.hid (HT.out.trans bt)
  have Bp := Lib.hid bp
  have ilp := Lib.hid (infoL Rp.out)
  clear bp bt hw2 hg
  go_wp2_with fail
  refine (of_lit ⟨#[237, 255, 255, 255, 255, 255, 255, 255, 255, 255, 255, 255, 255, 255, 255, 255, 255, 255, 255, 255, 255, 255, 255, 255, 255, 255, 255, 255, 255, 255, 255, 127]⟩ 3 0 of_P.1 of_P.2 _).mono ?_
  rintro e wq3 ⟨q, hq, hfq, rfl, ht⟩
  have Rq := Lib.hid hq
  have Fq := Lib.hid (show fe q = 0 by rw [hfq])
  replace Bp := Lib.hid (Bp.out.touch ht (by simp))
  replace HT := Lib.hid (HT.out.trans ht)
  clear hq hfq ht
  go_upto_region 3 with (first | (refine wpList_storeE rfl (.tmp 3) (.tmp 17) rfl (wq3.heap.size) rfl q rfl 24 _ Rq.out.len rfl (z1_0 wq3) ?_))
  obtain ⟨bq, bt⟩ := boxed1 wq3 q
  obtain ⟨w4, hw4⟩ : ∃ w4, w4 = ((wq3.alloc (.cells #[.int .i64 0, .int .i64 0, .int .i64 0, .int .i64 0, .int .i64 0, .int .i64 0, .int .i64 0, .int .i64 0, .int .i64 0, .int .i64 0, .int .i64 0, .int .i64 0, .int .i64 0, .int .i64 0, .int .i64 0, .int .i64 0] 24)).setRow (wq3.heap.size) (cellsZ q).toArray) := ⟨_, rfl⟩
  obtain ⟨g4, hg⟩ : ∃ g4, g4 = wq3.heap.size := ⟨_, rfl⟩
  rw [← hw4, ← hg] at bq
  rw [← hw4] at bt ⊢
  rw [← hg]
  replace Bp := Lib.hid (Bp.out.touch bt (by simp))
  replace HT := Lib.hid (HT.out.trans bt)
  have Bq := Lib.hid bq
  have ilq := Lib.hid (infoL Rq.out)
  clear bq bt hw4 hg
  go_wp2_with fail
  refine (of_lit ⟨#[120]⟩ 2 0 of_x.1 of_x.2 _).mono ?_
  rintro e wr5 ⟨r, hr, hfr, rfl, ht⟩
  have Rr := Lib.hid hr
  have Fr := Lib.hid (show fe r = 0 by rw [hfr])
  replace Bp := Lib.hid (Bp.out.touch ht (by simp))
  replace Bq := Lib.hid (Bq.out.touch ht (by simp))
  replace HT := Lib.hid (HT.out.trans ht)
  clear hr hfr ht
  go_upto_region 4 with (first | (refine wpList_storeE rfl (.tmp 5) (.tmp 21) rfl (wr5.heap.size) rfl r rfl 24 _ Rr.out.len rfl (z1_0 wr5) ?_))
  obtain ⟨br, bt⟩ := boxed1 wr5 r
  obtain ⟨w6, hw6⟩ : ∃ w6, w6 = ((wr5.alloc (.cells #[.int .i64 0, .int .i64 0, .int .i64 0, .int .i64 0, .int .i64 0, .int .i64 0, .int .i64 0, .int .i64 0, .int .i64 0, .int .i64 0, .int .i64 0, .int .i64 0, .int .i64 0, .int .i64 0, .int .i64 0, .int .i64 0] 24)).setRow (wr5.heap.size) (cellsZ r).toArray) := ⟨_, rfl⟩
  obtain ⟨g6, hg⟩ : ∃ g6, g6 = wr5.heap.size := ⟨_, rfl⟩
  rw [← hw6, ← hg] at br
  rw [← hw6] at bt ⊢
  rw [← hg]
  replace Bp := Lib.hid (Bp.out.touch bt (by simp))
  replace Bq := Lib.hid (Bq.out.touch bt (by simp))
  replace HT := Lib.hid (HT.out.trans bt)
  have Br := Lib.hid br
  have ilr := Lib.hid (infoL Rr.out)
  clear br bt hw6 hg
  go_wp2_with fail
  refine (num_any 4 (by omega) _).mono ?_
  rintro e ws7 ⟨s, hs, hfs, rfl, ht⟩
  have Rs := Lib.hid hs
  have Fs := Lib.hid (show fe s = 4 by rw [hfs, (by decide : 4 % PP = 4)])
  replace Bp := Lib.hid (Bp.out.touch ht (by simp))
  replace Bq := Lib.hid (Bq.out.touch ht (by simp))
  replace Br := Lib.hid (Br.out.touch ht (by simp))
  replace HT := Lib.hid (HT.out.trans ht)
  clear hs hfs ht
  go_wp2_with fail
  refine (root_b' (b := true) Rs.out (by rw [Fs.out]; exact isN_4) _).mono ?_
  rintro e wz8 ⟨z, hz, hfz, rfl, ht⟩
  have Rz := Lib.hid hz
  have Fz := Lib.hid (show fe z = 2 by rw [hfz, Fs.out, rootN_4])
  replace Bp := Lib.hid (Bp.out.touch ht (by simp))
  replace Bq := Lib.hid (Bq.out.touch ht (by simp))
  replace Br := Lib.hid (Br.out.touch ht (by simp))
  replace HT := Lib.hid (HT.out.trans ht)
  clear hz hfz ht
  go_upto_region 5 with (first | (refine wpList_storeE rfl (.tmp 7) (.tmp 26) rfl (wz8.heap.size) rfl z rfl 24 _ Rz.out.len rfl (z1_0 wz8) ?_))
  obtain ⟨bz, bt⟩ := boxed1 wz8 z
  obtain ⟨w9, hw9⟩ : ∃ w9, w9 = ((wz8.alloc (.cells #[.int .i64 0, .int .i64 0, .int .i64 0, .int .i64 0, .int .i64 0, .int .i64 0, .int .i64 0, .int .i64 0, .int .i64 0, .int .i64 0, .int .i64 0, .int .i64 0, .int .i64 0, .int .i64 0, .int .i64 0, .int .i64 0] 24)).setRow (wz8.heap.size) (cellsZ z).toArray) := ⟨_, rfl⟩
  obtain ⟨g9, hg⟩ : ∃ g9, g9 = wz8.heap.size := ⟨_, rfl⟩
  rw [← hw9, ← hg] at bz
  rw [← hw9] at bt ⊢
  rw [← hg]
  replace Bp := Lib.hid (Bp.out.touch bt (by simp))
  replace Bq := Lib.hid (Bq.out.touch bt (by simp))
  replace Br := Lib.hid (Br.out.touch bt (by simp))
  replace HT := Lib.hid (HT.out.trans bt)
  have Bz := Lib.hid bz
  have ilz := Lib.hid (infoL Rz.out)
  clear bz bt hw9 hg
  go_wp2_with fail
  refine (num_any 2 (by omega) _).mono ?_
  rintro e wu10 ⟨u, hu, hfu, rfl, ht⟩
  have Ru := Lib.hid hu
  have Fu := Lib.hid (show fe u = 2 by rw [hfu, (by decide : 2 % PP = 2)])
  replace Bp := Lib.hid (Bp.out.touch ht (by simp))
  replace Bq := Lib.hid (Bq.out.touch ht (by simp))
  replace Br := Lib.hid (Br.out.touch ht (by simp))
  replace Bz := Lib.hid (Bz.out.touch ht (by simp))
  replace HT := Lib.hid (HT.out.trans ht)
  clear hu hfu ht
  go_wp2_with fail
  refine (root_b' (b := false) Ru.out (by rw [Fu.out]; exact isN_2) _).mono ?_
  rintro e wv11 ⟨v, hv, hfv, rfl, ht⟩
  have Rv := Lib.hid hv
  have Fv := Lib.hid (show fe v = rootN 2 by rw [hfv, Fu.out])
  replace Bp := Lib.hid (Bp.out.touch ht (by simp))
  replace Bq := Lib.hid (Bq.out.touch ht (by simp))
  replace Br := Lib.hid (Br.out.touch ht (by simp))
  replace Bz := Lib.hid (Bz.out.touch ht (by simp))
  replace HT := Lib.hid (HT.out.trans ht)
  clear hv hfv ht
  go_upto_region 6 with (first | (refine wpList_storeE rfl (.tmp 9) (.tmp 31) rfl (wv11.heap.size) rfl v rfl 24 _ Rv.out.len rfl (z1_0 wv11) ?_))
  obtain ⟨bv, bt⟩ := boxed1 wv11 v
  obtain ⟨w12, hw12⟩ : ∃ w12, w12 = ((wv11.alloc (.cells #[.int .i64 0, .int .i64 0, .int .i64 0, .int .i64 0, .int .i64 0, .int .i64 0, .int .i64 0, .int .i64 0, .int .i64 0, .int .i64 0, .int .i64 0, .int .i64 0, .int .i64 0, .int .i64 0, .int .i64 0, .int .i64 0] 24)).setRow (wv11.heap.size) (cellsZ v).toArray) := ⟨_, rfl⟩
  obtain ⟨g12, hg⟩ : ∃ g12, g12 = wv11.heap.size := ⟨_, rfl⟩
  rw [← hw12, ← hg] at bv
  rw [← hw12] at bt ⊢
  rw [← hg]
  replace Bp := Lib.hid (Bp.out.touch bt (by simp))
  replace Bq := Lib.hid (Bq.out.touch bt (by simp))
  replace Br := Lib.hid (Br.out.touch bt (by simp))
  replace Bz := Lib.hid (Bz.out.touch bt (by simp))
  replace HT := Lib.hid (HT.out.trans bt)
  have Bv := Lib.hid bv
  have ilv := Lib.hid (infoL Rv.out)
  clear bv bt hw12 hg
  have rgp := Lib.hid (range_far Bp.out)
  have rgz := Lib.hid (range_far Bz.out)
  refine wp_region_flow (by kernel_rfl) (fun W => Touch [] w12 W) (look [(0, isB true), (1, isP (g2)), (2, isV (.int .i64 (0))), (4, isV (.int .i64 (3))), (6, isV (.int .i64 (2))), (7, isP (g9)), (8, isB true), (10, isB false), (33, isV (.int .i64 (0))), (34, isB true), (35, isB true), (36, isV (.int .i64 (3))), (37, isB true), (38, isB true), (39, isB true), (40, isV (.int .i64 (2))), (41, isB true), (42, isB true), (43, isB true), (44, EV (2)), (45, EV (2)), (46, isB true), (47, isB true), (48, isB true), (49, EV (2)), (50, EV (2)), (51, EV (invF (2))), (52, EV (mulF (2) (invF (2)))), (53, EV (1)), (54, isB true), (55, isB true), (56, isB true), (57, isB true), (58, isB true), (59, isB true), (60, EV (2)), (61, EV (2)), (62, isB true), (63, isB true), (64, isB true), (65, isB false), (66, isB true), (67, isB true), (68, isB true), (69, EV (2)), (70, EV (2)), (71, EV (negF (2))), (72, EV (addF (2) (negF (2)))), (73, isB true), (74, isB true), (75, isB true), (76, EV (3)), (77, isB true), (78, isB true), (79, isB true), (80, EV (2)), (81, isB false), (82, isB true), (83, isB true), (84, isB true), (85, EV (5)), (86, EV (2)), (87, EV (subF (5) (2))), (88, EV (3)), (89, isB true), (90, isB true), (91, isB true), (92, EV (2)), (93, isS (toS (2))), (94, isV (.int .i64 (((toS (2)).size : Int)))), (95, isB true), (96, isB true), (97, isB true), (98, EV (2)), (99, isS (toS (2))), (100, isV (.int .u8 (2))), (101, isB true), (102, isB true)]) [1, 2, 4, 6, 7, 8, 10] [33, 34, 35, 36, 37, 38, 39, 40, 41, 42, 43, 44, 45, 46, 47, 48, 49, 50, 51, 52, 53, 54, 55, 56, 57, 58, 59, 60, 61, 62, 63, 64, 65, 66, 67, 68, 69, 70, 71, 72, 73, 74, 75, 76, 77, 78, 79, 80, 81, 82, 83, 84, 85, 86, 87, 88, 89, 90, 91, 92, 93, 94, 95, 96, 97, 98, 99, 100, 101, 102, 0] [0] (by kernel_rfl) (by kernel_rfl) (by kernel_rfl) (by kernel_rfl) (by first | exact (Touch.refl _ _).drew | assumption) ⟨rfl, rfl, rfl, rfl, rfl, rfl, rfl, trivial⟩ ?_ ?_
  · refine FSteps.cons (FStep.plain rfl fun a w hS hE => OpTo.move rfl ⟨dOf.of 33 rfl (hE 2 (by kernel_rfl)), hS⟩) ?_
    refine FSteps.cons (FStep.plain rfl fun a w hS hE => OpTo.eqI .i64 (0) (0) rfl (hE 33 (by kernel_rfl)) rfl ⟨dOf.of 34 rfl (by rw [(decide_eq_true (rfl : (0 : Int) = 0))]; rfl), hS⟩) ?_
    refine FSteps.cons (FStep.plain rfl fun a w hS hE => OpTo.move rfl ⟨dOf.of 35 rfl (hE 34 (by kernel_rfl)), hS⟩) ?_
    refine FSteps.cons (FStep.go 35 rfl rfl (fun _ h => h) fun a w hS hE => OpTo.move rfl ⟨dOf.of 36 rfl (hE 4 (by kernel_rfl)), hS⟩) ?_
    refine FSteps.cons (FStep.go 35 rfl rfl (fun _ h => h) fun a w hS hE => OpTo.eqI .i64 (3) (3) rfl (hE 36 (by kernel_rfl)) rfl ⟨dOf.of 37 rfl (by rw [(decide_eq_true (rfl : (3 : Int) = 3))]; rfl), hS⟩) ?_
    refine FSteps.cons (FStep.plain rfl fun a w hS hE => OpTo.pick true rfl (hE 35 (by kernel_rfl)) ⟨dOf.of 38 rfl (hE 37 (by kernel_rfl)), hS⟩) ?_
    refine FSteps.cons (FStep.plain rfl fun a w hS hE => OpTo.move rfl ⟨dOf.of 39 rfl (hE 38 (by kernel_rfl)), hS⟩) ?_
    refine FSteps.cons (FStep.go 39 rfl rfl (fun _ h => h) fun a w hS hE => OpTo.move rfl ⟨dOf.of 40 rfl (hE 6 (by kernel_rfl)), hS⟩) ?_
    refine FSteps.cons (FStep.go 39 rfl rfl (fun _ h => h) fun a w hS hE => OpTo.eqI .i64 (2) (2) rfl (hE 40 (by kernel_rfl)) rfl ⟨dOf.of 41 rfl (by rw [(decide_eq_true (rfl : (2 : Int) = 2))]; rfl), hS⟩) ?_
    refine FSteps.cons (FStep.plain rfl fun a w hS hE => OpTo.pick true rfl (hE 39 (by kernel_rfl)) ⟨dOf.of 42 rfl (hE 41 (by kernel_rfl)), hS⟩) ?_
    refine FSteps.cons (FStep.plain rfl fun a w hS hE => OpTo.move rfl ⟨dOf.of 43 rfl (hE 42 (by kernel_rfl)), hS⟩) ?_
    refine FSteps.cons (FStep.go 43 rfl rfl (fun _ h => h) fun a w hS hE => OpTo.row _ (.tmp 1) rfl (g2) (hE 1 (by kernel_rfl)) (cellsZ p) _ (rgp.out w hS) Try.underlying24 rfl ilp.out ⟨dOf.of 44 rfl ⟨p, Rp.out, Fp.out, rfl⟩, hS⟩) ?_
    refine FSteps.cons (FStep.go 43 rfl rfl (fun _ h => h) fun a w hS hE => OpTo.call #[.int .u64 2] rfl Try.func30 (by kernel_rfl) (by kernel_rfl) (args1 ..) ((num_v 2 (by omega) w).mono fun _ _ h => Gives.to hS 45 rfl (fun _ h => h) h)) ?_
    refine FSteps.cons (FStep.go 43 rfl rfl (fun _ h => h) fun a w hS hE => OpTo.call #[a.tmps.getD 44 undef, a.tmps.getD 45 undef] rfl Try.func22 (by kernel_rfl) (by kernel_rfl) (args2 ..) ((same_v (hE 44 (by kernel_rfl)) (hE 45 (by kernel_rfl)) (decide_eq_true (rfl : (2 : Nat) = 2)) w).mono fun _ _ h => Gives.to hS 46 rfl (fun _ h => h) h)) ?_
    refine FSteps.cons (FStep.plain rfl fun a w hS hE => OpTo.pick true rfl (hE 43 (by kernel_rfl)) ⟨dOf.of 47 rfl (hE 46 (by kernel_rfl)), hS⟩) ?_
    refine FSteps.cons (FStep.plain rfl fun a w hS hE => OpTo.move rfl ⟨dOf.of 48 rfl (hE 47 (by kernel_rfl)), hS⟩) ?_
    refine FSteps.cons (FStep.go 48 rfl rfl (fun _ h => h) fun a w hS hE => OpTo.row _ (.tmp 1) rfl (g2) (hE 1 (by kernel_rfl)) (cellsZ p) _ (rgp.out w hS) Try.underlying24 rfl ilp.out ⟨dOf.of 49 rfl ⟨p, Rp.out, Fp.out, rfl⟩, hS⟩) ?_
    refine FSteps.cons (FStep.go 48 rfl rfl (fun _ h => h) fun a w hS hE => OpTo.row _ (.tmp 1) rfl (g2) (hE 1 (by kernel_rfl)) (cellsZ p) _ (rgp.out w hS) Try.underlying24 rfl ilp.out ⟨dOf.of 50 rfl ⟨p, Rp.out, Fp.out, rfl⟩, hS⟩) ?_
    refine FSteps.cons (FStep.go 48 rfl rfl (fun _ h => h) fun a w hS hE => OpTo.call #[a.tmps.getD 50 undef] rfl Try.func33 (by kernel_rfl) (by kernel_rfl) (args1 ..) ((inv_v (hE 50 (by kernel_rfl)) w).mono fun _ _ h => Gives.to hS 51 rfl (fun _ h => h) h)) ?_
    refine FSteps.cons (FStep.go 48 rfl rfl (fun _ h => h) fun a w hS hE => OpTo.call #[a.tmps.getD 49 undef, a.tmps.getD 51 undef] rfl Try.func18 (by kernel_rfl) (by kernel_rfl) (args2 ..) ((mul_v (hE 49 (by kernel_rfl)) (hE 51 (by kernel_rfl)) w).mono fun _ _ h => Gives.to hS 52 rfl (fun _ h => h) h)) ?_
    refine FSteps.cons (FStep.go 48 rfl rfl (fun _ h => h) fun a w hS hE => OpTo.call #[.int .u64 1] rfl Try.func30 (by kernel_rfl) (by kernel_rfl) (args1 ..) ((num_v 1 (by omega) w).mono fun _ _ h => Gives.to hS 53 rfl (fun _ h => h) h)) ?_
    refine FSteps.cons (FStep.go 48 rfl rfl (fun _ h => h) fun a w hS hE => OpTo.call #[a.tmps.getD 52 undef, a.tmps.getD 53 undef] rfl Try.func22 (by kernel_rfl) (by kernel_rfl) (args2 ..) ((same_v (hE 52 (by kernel_rfl)) (hE 53 (by kernel_rfl)) K54.out w).mono fun _ _ h => Gives.to hS 54 rfl (fun _ h => h) h)) ?_
    refine FSteps.cons (FStep.plain rfl fun a w hS hE => OpTo.pick true rfl (hE 48 (by kernel_rfl)) ⟨dOf.of 55 rfl (hE 54 (by kernel_rfl)), hS⟩) ?_
    refine FSteps.cons (FStep.plain rfl fun a w hS hE => OpTo.move rfl ⟨dOf.of 56 rfl (hE 55 (by kernel_rfl)), hS⟩) ?_
    refine FSteps.cons (FStep.go 56 rfl rfl (fun _ h => h) fun a w hS hE => OpTo.move rfl ⟨dOf.of 57 rfl (hE 8 (by kernel_rfl)), hS⟩) ?_
    refine FSteps.cons (FStep.plain rfl fun a w hS hE => OpTo.pick true rfl (hE 56 (by kernel_rfl)) ⟨dOf.of 58 rfl (hE 57 (by kernel_rfl)), hS⟩) ?_
    refine FSteps.cons (FStep.plain rfl fun a w hS hE => OpTo.move rfl ⟨dOf.of 59 rfl (hE 58 (by kernel_rfl)), hS⟩) ?_
    refine FSteps.cons (FStep.go 59 rfl rfl (fun _ h => h) fun a w hS hE => OpTo.row _ (.tmp 7) rfl (g9) (hE 7 (by kernel_rfl)) (cellsZ z) _ (rgz.out w hS) Try.underlying24 rfl ilz.out ⟨dOf.of 60 rfl ⟨z, Rz.out, Fz.out, rfl⟩, hS⟩) ?_
    refine FSteps.cons (FStep.go 59 rfl rfl (fun _ h => h) fun a w hS hE => OpTo.row _ (.tmp 1) rfl (g2) (hE 1 (by kernel_rfl)) (cellsZ p) _ (rgp.out w hS) Try.underlying24 rfl ilp.out ⟨dOf.of 61 rfl ⟨p, Rp.out, Fp.out, rfl⟩, hS⟩) ?_
    refine FSteps.cons (FStep.go 59 rfl rfl (fun _ h => h) fun a w hS hE => OpTo.call #[a.tmps.getD 60 undef, a.tmps.getD 61 undef] rfl Try.func22 (by kernel_rfl) (by kernel_rfl) (args2 ..) ((same_v (hE 60 (by kernel_rfl)) (hE 61 (by kernel_rfl)) (decide_eq_true (rfl : (2 : Nat) = 2)) w).mono fun _ _ h => Gives.to hS 62 rfl (fun _ h => h) h)) ?_
    refine FSteps.cons (FStep.plain rfl fun a w hS hE => OpTo.pick true rfl (hE 59 (by kernel_rfl)) ⟨dOf.of 63 rfl (hE 62 (by kernel_rfl)), hS⟩) ?_
    refine FSteps.cons (FStep.plain rfl fun a w hS hE => OpTo.move rfl ⟨dOf.of 64 rfl (hE 63 (by kernel_rfl)), hS⟩) ?_
    refine FSteps.cons (FStep.go 64 rfl rfl (fun _ h => h) fun a w hS hE => OpTo.move rfl ⟨dOf.of 65 rfl (hE 10 (by kernel_rfl)), hS⟩) ?_
    refine FSteps.cons (FStep.go 64 rfl rfl (fun _ h => h) fun a w hS hE => OpTo.not false rfl (hE 65 (by kernel_rfl)) ⟨dOf.of 66 rfl (Eq.refl (Value.bool true)), hS⟩) ?_
    refine FSteps.cons (FStep.plain rfl fun a w hS hE => OpTo.pick true rfl (hE 64 (by kernel_rfl)) ⟨dOf.of 67 rfl (hE 66 (by kernel_rfl)), hS⟩) ?_
    refine FSteps.cons (FStep.plain rfl fun a w hS hE => OpTo.move rfl ⟨dOf.of 68 rfl (hE 67 (by kernel_rfl)), hS⟩) ?_
    refine FSteps.cons (FStep.go 68 rfl rfl (fun _ h => h) fun a w hS hE => OpTo.row _ (.tmp 1) rfl (g2) (hE 1 (by kernel_rfl)) (cellsZ p) _ (rgp.out w hS) Try.underlying24 rfl ilp.out ⟨dOf.of 69 rfl ⟨p, Rp.out, Fp.out, rfl⟩, hS⟩) ?_
    refine FSteps.cons (FStep.go 68 rfl rfl (fun _ h => h) fun a w hS hE => OpTo.row _ (.tmp 1) rfl (g2) (hE 1 (by kernel_rfl)) (cellsZ p) _ (rgp.out w hS) Try.underlying24 rfl ilp.out ⟨dOf.of 70 rfl ⟨p, Rp.out, Fp.out, rfl⟩, hS⟩) ?_
    refine FSteps.cons (FStep.go 68 rfl rfl (fun _ h => h) fun a w hS hE => OpTo.call #[a.tmps.getD 70 undef] rfl Try.func20 (by kernel_rfl) (by kernel_rfl) (args1 ..) ((neg_v (hE 70 (by kernel_rfl)) w).mono fun _ _ h => Gives.to hS 71 rfl (fun _ h => h) h)) ?_
    refine FSteps.cons (FStep.go 68 rfl rfl (fun _ h => h) fun a w hS hE => OpTo.call #[a.tmps.getD 69 undef, a.tmps.getD 71 undef] rfl Try.func14 (by kernel_rfl) (by kernel_rfl) (args2 ..) ((add_v (hE 69 (by kernel_rfl)) (hE 71 (by kernel_rfl)) w).mono fun _ _ h => Gives.to hS 72 rfl (fun _ h => h) h)) ?_
    refine FSteps.cons (FStep.go 68 rfl rfl (fun _ h => h) fun a w hS hE => OpTo.call #[a.tmps.getD 72 undef] rfl Try.func25 (by kernel_rfl) (by kernel_rfl) (args1 ..) ((zero_v (hE 72 (by kernel_rfl)) K73.out w).mono fun _ _ h => Gives.to hS 73 rfl (fun _ h => h) h)) ?_
    refine FSteps.cons (FStep.plain rfl fun a w hS hE => OpTo.pick true rfl (hE 68 (by kernel_rfl)) ⟨dOf.of 74 rfl (hE 73 (by kernel_rfl)), hS⟩) ?_
    refine FSteps.cons (FStep.plain rfl fun a w hS hE => OpTo.move rfl ⟨dOf.of 75 rfl (hE 74 (by kernel_rfl)), hS⟩) ?_
    refine FSteps.cons (FStep.go 75 rfl rfl (fun _ h => h) fun a w hS hE => OpTo.call #[.int .u64 3] rfl Try.func30 (by kernel_rfl) (by kernel_rfl) (args1 ..) ((num_v 3 (by omega) w).mono fun _ _ h => Gives.to hS 76 rfl (fun _ h => h) h)) ?_
    refine FSteps.cons (FStep.go 75 rfl rfl (fun _ h => h) fun a w hS hE => OpTo.call #[a.tmps.getD 76 undef] rfl Try.func23 (by kernel_rfl) (by kernel_rfl) (args1 ..) ((odd_v (hE 76 (by kernel_rfl)) (decide_eq_true (rfl : 3 % 2 = 1)) w).mono fun _ _ h => Gives.to hS 77 rfl (fun _ h => h) h)) ?_
    refine FSteps.cons (FStep.plain rfl fun a w hS hE => OpTo.pick true rfl (hE 75 (by kernel_rfl)) ⟨dOf.of 78 rfl (hE 77 (by kernel_rfl)), hS⟩) ?_
    refine FSteps.cons (FStep.plain rfl fun a w hS hE => OpTo.move rfl ⟨dOf.of 79 rfl (hE 78 (by kernel_rfl)), hS⟩) ?_
    refine FSteps.cons (FStep.go 79 rfl rfl (fun _ h => h) fun a w hS hE => OpTo.row _ (.tmp 1) rfl (g2) (hE 1 (by kernel_rfl)) (cellsZ p) _ (rgp.out w hS) Try.underlying24 rfl ilp.out ⟨dOf.of 80 rfl ⟨p, Rp.out, Fp.out, rfl⟩, hS⟩) ?_
    refine FSteps.cons (FStep.go 79 rfl rfl (fun _ h => h) fun a w hS hE => OpTo.call #[a.tmps.getD 80 undef] rfl Try.func23 (by kernel_rfl) (by kernel_rfl) (args1 ..) ((odd_v (hE 80 (by kernel_rfl)) K81.out w).mono fun _ _ h => Gives.to hS 81 rfl (fun _ h => h) h)) ?_
    refine FSteps.cons (FStep.go 79 rfl rfl (fun _ h => h) fun a w hS hE => OpTo.not false rfl (hE 81 (by kernel_rfl)) ⟨dOf.of 82 rfl (Eq.refl (Value.bool true)), hS⟩) ?_
    refine FSteps.cons (FStep.plain rfl fun a w hS hE => OpTo.pick true rfl (hE 79 (by kernel_rfl)) ⟨dOf.of 83 rfl (hE 82 (by kernel_rfl)), hS⟩) ?_
    refine FSteps.cons (FStep.plain rfl fun a w hS hE => OpTo.move rfl ⟨dOf.of 84 rfl (hE 83 (by kernel_rfl)), hS⟩) ?_
    refine FSteps.cons (FStep.go 84 rfl rfl (fun _ h => h) fun a w hS hE => OpTo.call #[.int .u64 5] rfl Try.func30 (by kernel_rfl) (by kernel_rfl) (args1 ..) ((num_v 5 (by omega) w).mono fun _ _ h => Gives.to hS 85 rfl (fun _ h => h) h)) ?_
    refine FSteps.cons (FStep.go 84 rfl rfl (fun _ h => h) fun a w hS hE => OpTo.row _ (.tmp 1) rfl (g2) (hE 1 (by kernel_rfl)) (cellsZ p) _ (rgp.out w hS) Try.underlying24 rfl ilp.out ⟨dOf.of 86 rfl ⟨p, Rp.out, Fp.out, rfl⟩, hS⟩) ?_
    refine FSteps.cons (FStep.go 84 rfl rfl (fun _ h => h) fun a w hS hE => OpTo.call #[a.tmps.getD 85 undef, a.tmps.getD 86 undef] rfl Try.func16 (by kernel_rfl) (by kernel_rfl) (args2 ..) ((sub_v (hE 85 (by kernel_rfl)) (hE 86 (by kernel_rfl)) w).mono fun _ _ h => Gives.to hS 87 rfl (fun _ h => h) h)) ?_
    refine FSteps.cons (FStep.go 84 rfl rfl (fun _ h => h) fun a w hS hE => OpTo.call #[.int .u64 3] rfl Try.func30 (by kernel_rfl) (by kernel_rfl) (args1 ..) ((num_v 3 (by omega) w).mono fun _ _ h => Gives.to hS 88 rfl (fun _ h => h) h)) ?_
    refine FSteps.cons (FStep.go 84 rfl rfl (fun _ h => h) fun a w hS hE => OpTo.call #[a.tmps.getD 87 undef, a.tmps.getD 88 undef] rfl Try.func22 (by kernel_rfl) (by kernel_rfl) (args2 ..) ((same_v (hE 87 (by kernel_rfl)) (hE 88 (by kernel_rfl)) K89.out w).mono fun _ _ h => Gives.to hS 89 rfl (fun _ h => h) h)) ?_
    refine FSteps.cons (FStep.plain rfl fun a w hS hE => OpTo.pick true rfl (hE 84 (by kernel_rfl)) ⟨dOf.of 90 rfl (hE 89 (by kernel_rfl)), hS⟩) ?_
    refine FSteps.cons (FStep.plain rfl fun a w hS hE => OpTo.move rfl ⟨dOf.of 91 rfl (hE 90 (by kernel_rfl)), hS⟩) ?_
    refine FSteps.cons (FStep.go 91 rfl rfl (fun _ h => h) fun a w hS hE => OpTo.row _ (.tmp 1) rfl (g2) (hE 1 (by kernel_rfl)) (cellsZ p) _ (rgp.out w hS) Try.underlying24 rfl ilp.out ⟨dOf.of 92 rfl ⟨p, Rp.out, Fp.out, rfl⟩, hS⟩) ?_
    refine FSteps.cons (FStep.go 91 rfl rfl (fun _ h => h) fun a w hS hE => OpTo.call #[a.tmps.getD 92 undef] rfl Try.func13 (by kernel_rfl) (by kernel_rfl) (args1 ..) ((bytes_v (hE 92 (by kernel_rfl)) w).mono fun _ _ h => Gives.to hS 93 rfl (fun _ h => h) h)) ?_
    refine FSteps.cons (FStep.go 91 rfl rfl (fun _ h => h) fun a w hS hE => OpTo.lenS Try.underlying9 (toS (2)) rfl (hE 93 (by kernel_rfl)) ⟨dOf.of 94 rfl rfl, hS⟩) ?_
    refine FSteps.cons (FStep.go 91 rfl rfl (fun _ h => h) fun a w hS hE => OpTo.eqI .i64 (((toS (2)).size : Int)) (32) rfl (hE 94 (by kernel_rfl)) rfl ⟨dOf.of 95 rfl (by rw [K95.out]; rfl), hS⟩) ?_
    refine FSteps.cons (FStep.plain rfl fun a w hS hE => OpTo.pick true rfl (hE 91 (by kernel_rfl)) ⟨dOf.of 96 rfl (hE 95 (by kernel_rfl)), hS⟩) ?_
    refine FSteps.cons (FStep.plain rfl fun a w hS hE => OpTo.move rfl ⟨dOf.of 97 rfl (hE 96 (by kernel_rfl)), hS⟩) ?_
    refine FSteps.cons (FStep.go 97 rfl rfl (fun _ h => h) fun a w hS hE => OpTo.row _ (.tmp 1) rfl (g2) (hE 1 (by kernel_rfl)) (cellsZ p) _ (rgp.out w hS) Try.underlying24 rfl ilp.out ⟨dOf.of 98 rfl ⟨p, Rp.out, Fp.out, rfl⟩, hS⟩) ?_
    refine FSteps.cons (FStep.go 97 rfl rfl (fun _ h => h) fun a w hS hE => OpTo.call #[a.tmps.getD 98 undef] rfl Try.func13 (by kernel_rfl) (by kernel_rfl) (args1 ..) ((bytes_v (hE 98 (by kernel_rfl)) w).mono fun _ _ h => Gives.to hS 99 rfl (fun _ h => h) h)) ?_
    refine FSteps.cons (FStep.go 97 rfl rfl (fun _ h => h) fun a w hS hE => OpTo.indexS Try.underlying9 (toS (2)) (0) rfl (hE 99 (by kernel_rfl)) rfl L100.out ⟨dOf.of 100 rfl (by rw [K100.out]; rfl), hS⟩) ?_
    refine FSteps.cons (FStep.go 97 rfl rfl (fun _ h => h) fun a w hS hE => OpTo.eqI .u8 (2) (2) rfl (hE 100 (by kernel_rfl)) rfl ⟨dOf.of 101 rfl (by rw [(decide_eq_true (rfl : (2 : Int) = 2))]; rfl), hS⟩) ?_
    refine FSteps.cons (FStep.plain rfl fun a w hS hE => OpTo.pick true rfl (hE 97 (by kernel_rfl)) ⟨dOf.of 102 rfl (hE 101 (by kernel_rfl)), hS⟩) ?_
    refine FSteps.cons (FStep.plain rfl fun a w hS hE => OpTo.assign rfl ⟨dOf.of 0 rfl (hE 102 (by kernel_rfl)), hS⟩) ?_
    exact FSteps.nil
  intro f wx hS hF
  obtain ⟨h0, -⟩ := hF
  replace h0 : f 0 = .bool true := h0
  (try unfold Act.put)
  simp only [setAll, List.setIfInBounds_toArray, List.set_cons_zero, List.set_cons_succ, h0]
  replace Bp := Lib.hid (Bp.out.touch hS (by simp))
  replace Bq := Lib.hid (Bq.out.touch hS (by simp))
  replace Br := Lib.hid (Br.out.touch hS (by simp))
  replace Bz := Lib.hid (Bz.out.touch hS (by simp))
  replace Bv := Lib.hid (Bv.out.touch hS (by simp))
  replace HT := Lib.hid (HT.out.trans hS)
  clear hS rgp rgz h0
  rename World => w13
  
  go_wp2_with fail
  go_ret
  exact ⟨rfl, HT.out⟩
end Go.Proofs.Ytbchjefgfghjlaa
