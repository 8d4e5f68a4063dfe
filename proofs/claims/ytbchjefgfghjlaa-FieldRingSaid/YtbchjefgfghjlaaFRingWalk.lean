/- syngraphlaw04.FieldRing: the walk. -/
import Derived.Test.YtbchjefgfghjlaaElem
import Derived.Test.YtbchjefgfghjlaaFLaws
import Derived.Test.YtbchjefgfghjlaaFixed04
namespace Go.Proofs.Ytbchjefgfghjlaa
open Go.RowKit
set_option maxRecDepth 100000 in
set_option maxHeartbeats 4000000 in
theorem fring_walk (hfix : FixedOk) (a b c : ByteArray) (w : World) : Calls Try.prog 6 #[.string a, .string b, .string c] w fun e w' => e = .returned (.bool true) ∧ Touch [] w w' := by
  obtain ⟨X, hX⟩ : ∃ n, n = cutN a := ⟨_, rfl⟩
  have HX := Lib.hid hX.symm
  have lX : X < PP := hX ▸ cutN_lt _
  clear hX
  obtain ⟨Y, hY⟩ : ∃ n, n = cutN b := ⟨_, rfl⟩
  have HY := Lib.hid hY.symm
  have lY : Y < PP := hY ▸ cutN_lt _
  clear hY
  obtain ⟨Z, hZ⟩ : ∃ n, n = cutN c := ⟨_, rfl⟩
  have HZ := Lib.hid hZ.symm
  have lZ : Z < PP := hZ ▸ cutN_lt _
  clear hZ
  have K22 := Lib.hid (show decide (addF X Y = addF Y X) = true from decide_eq_true (addF_comm ..))
  have K31 := Lib.hid (show decide (mulF X Y = mulF Y X) = true from decide_eq_true (mulF_comm ..))
  have K45 := Lib.hid (show decide (addF (addF X Y) Z = addF X (addF Y Z)) = true from decide_eq_true (addF_assoc ..))
  have K59 := Lib.hid (show decide (mulF (mulF X Y) Z = mulF X (mulF Y Z)) = true from decide_eq_true (mulF_assoc ..))
  have K74 := Lib.hid (show decide (mulF (addF X Y) Z = addF (mulF X Z) (mulF Y Z)) = true from decide_eq_true (mulF_add ..))
  have K82 := Lib.hid (show decide (addF (subF X Y) Y = X) = true from decide_eq_true (subF_addF lX lY))
  have K89 := Lib.hid (show decide (mulF X 1 = X) = true from decide_eq_true (mulF_one lX))
  have K96 := Lib.hid (show decide (addF X 0 = X) = true from decide_eq_true (addF_zero lX))
  have K102 := Lib.hid (show decide (subF X X = 0) = true from decide_eq_true (subF_self lX))
  have K109 := Lib.hid (show decide (negF (negF X) = X) = true from decide_eq_true (negF_negF lX))
  have K115 := Lib.hid (show decide (mulF X 0 = 0) = true from decide_eq_true (mulF_zero ..))
  clear lX lY lZ
  have HT := Lib.hid (Touch.refl [] w)
  go_enter Try.func6, Try.ntmps6
  go_wp2_with fail
  refine (cut_anyE a _).mono ?_
  rintro e wp ⟨p, hp, hfp, rfl, ht⟩
  have Rp := Lib.hid hp
  have Fp := Lib.hid (show fe p = X by rw [hfp, HX.out])
  replace HT := Lib.hid (HT.out.trans ht)
  clear hp hfp ht
  go_wp2_with fail
  refine (cut_anyE b _).mono ?_
  rintro e wq ⟨q, hq, hfq, rfl, ht⟩
  have Rq := Lib.hid hq
  have Fq := Lib.hid (show fe q = Y by rw [hfq, HY.out])
  replace HT := Lib.hid (HT.out.trans ht)
  clear hq hfq ht
  go_wp2_with fail
  refine (cut_anyE c _).mono ?_
  rintro e wr ⟨r, hr, hfr, rfl, ht⟩
  have Rr := Lib.hid hr
  have Fr := Lib.hid (show fe r = Z by rw [hfr, HZ.out])
  replace HT := Lib.hid (HT.out.trans ht)
  clear hr hfr ht
  go_upto_region 2 with (first | (refine wpList_storeE rfl (.tmp 7) (.tmp 11) rfl (wr.heap.size) rfl p rfl 24 _ Rp.out.len rfl (z3_0 wr) ?_) | (refine wpList_storeE rfl (.tmp 8) (.tmp 13) rfl (wr.heap.size + 1) rfl q rfl 24 _ Rq.out.len rfl (Blk.frow (z3_1 wr) (by omega) _) ?_) | (refine wpList_storeE rfl (.tmp 9) (.tmp 15) rfl (wr.heap.size + 2) rfl r rfl 24 _ Rr.out.len rfl (Blk.frow (Blk.frow (z3_2 wr) (by omega) _) (by omega) _) ?_))
  obtain ⟨bp, bq, br, bt⟩ := boxed3 wr p q r
  obtain ⟨w1, hw1⟩ : ∃ w1, w1 = ((((((wr.alloc (.cells #[.int .i64 0, .int .i64 0, .int .i64 0, .int .i64 0, .int .i64 0, .int .i64 0, .int .i64 0, .int .i64 0, .int .i64 0, .int .i64 0, .int .i64 0, .int .i64 0, .int .i64 0, .int .i64 0, .int .i64 0, .int .i64 0] 24)).alloc (.cells #[.int .i64 0, .int .i64 0, .int .i64 0, .int .i64 0, .int .i64 0, .int .i64 0, .int .i64 0, .int .i64 0, .int .i64 0, .int .i64 0, .int .i64 0, .int .i64 0, .int .i64 0, .int .i64 0, .int .i64 0, .int .i64 0] 24)).alloc (.cells #[.int .i64 0, .int .i64 0, .int .i64 0, .int .i64 0, .int .i64 0, .int .i64 0, .int .i64 0, .int .i64 0, .int .i64 0, .int .i64 0, .int .i64 0, .int .i64 0, .int .i64 0, .int .i64 0, .int .i64 0, .int .i64 0] 24)).setRow (wr.heap.size) (cellsZ p).toArray).setRow (wr.heap.size + 1) (cellsZ q).toArray).setRow (wr.heap.size + 2) (cellsZ r).toArray) := ⟨_, rfl⟩
  obtain ⟨gg, hg⟩ : ∃ gg, gg = wr.heap.size := ⟨_, rfl⟩
  rw [← hw1, ← hg] at bp bq br
  rw [← hw1] at bt ⊢
  rw [← hg]
  replace HT := Lib.hid (HT.out.trans bt)
  have Bp := Lib.hid bp
  have Bq := Lib.hid bq
  have Br := Lib.hid br
  clear bp bq br bt hw1 hg
  have ilp := Lib.hid (infoL Rp.out)
  have ilq := Lib.hid (infoL Rq.out)
  have ilr := Lib.hid (infoL Rr.out)
  have rgp := Lib.hid (range_far Bp.out)
  have rgq := Lib.hid (range_far Bq.out)
  have rgr := Lib.hid (range_far Br.out)
  refine wp_region_flow (by kernel_rfl) (fun W => Touch [] w1 W) (look [(7, isP (gg)), (8, isP (gg + 1)), (9, isP (gg + 2)), (16, EV (X)), (17, EV (Y)), (18, EV (addF (X) (Y))), (19, EV (Y)), (20, EV (X)), (21, EV (addF (Y) (X))), (22, isB true), (23, isB false), (24, isB false), (25, EV (X)), (26, EV (Y)), (27, EV (mulF (X) (Y))), (28, EV (Y)), (29, EV (X)), (30, EV (mulF (Y) (X))), (31, isB true), (32, isB false), (33, isB false), (34, isB false), (35, EV (X)), (36, EV (Y)), (37, EV (addF (X) (Y))), (38, EV (Z)), (39, EV (addF (addF (X) (Y)) (Z))), (40, EV (X)), (41, EV (Y)), (42, EV (Z)), (43, EV (addF (Y) (Z))), (44, EV (addF (X) (addF (Y) (Z)))), (45, isB true), (46, isB false), (47, isB false), (48, isB false), (49, EV (X)), (50, EV (Y)), (51, EV (mulF (X) (Y))), (52, EV (Z)), (53, EV (mulF (mulF (X) (Y)) (Z))), (54, EV (X)), (55, EV (Y)), (56, EV (Z)), (57, EV (mulF (Y) (Z))), (58, EV (mulF (X) (mulF (Y) (Z)))), (59, isB true), (60, isB false), (61, isB false)]) [7, 8, 9] [16, 17, 18, 19, 20, 21, 22, 23, 24, 25, 26, 27, 28, 29, 30, 31, 32, 33, 34, 35, 36, 37, 38, 39, 40, 41, 42, 43, 44, 45, 46, 47, 48, 49, 50, 51, 52, 53, 54, 55, 56, 57, 58, 59, 60, 61] [61] (by kernel_rfl) (by kernel_rfl) (by kernel_rfl) (by kernel_rfl) (by first | exact (Touch.refl _ _).drew | assumption) ⟨rfl, rfl, rfl, trivial⟩ ?_ ?_
  · refine FSteps.cons (FStep.plain rfl fun a w hS hE => OpTo.row _ (.tmp 7) rfl (gg) (hE 7 (by kernel_rfl)) (cellsZ p) _ (rgp.out w hS) Try.underlying24 rfl ilp.out ⟨dOf.of 16 rfl ⟨p, Rp.out, Fp.out, rfl⟩, hS⟩) ?_
    refine FSteps.cons (FStep.plain rfl fun a w hS hE => OpTo.row _ (.tmp 8) rfl (gg + 1) (hE 8 (by kernel_rfl)) (cellsZ q) _ (rgq.out w hS) Try.underlying24 rfl ilq.out ⟨dOf.of 17 rfl ⟨q, Rq.out, Fq.out, rfl⟩, hS⟩) ?_
    refine FSteps.cons (FStep.plain rfl fun a w hS hE => OpTo.call #[a.tmps.getD 16 undef, a.tmps.getD 17 undef] rfl Try.func14 (by kernel_rfl) (by kernel_rfl) (args2 ..) ((add_v (hE 16 (by kernel_rfl)) (hE 17 (by kernel_rfl)) w).mono fun _ _ h => Gives.to hS 18 rfl (fun _ h => h) h)) ?_
    refine FSteps.cons (FStep.plain rfl fun a w hS hE => OpTo.row _ (.tmp 8) rfl (gg + 1) (hE 8 (by kernel_rfl)) (cellsZ q) _ (rgq.out w hS) Try.underlying24 rfl ilq.out ⟨dOf.of 19 rfl ⟨q, Rq.out, Fq.out, rfl⟩, hS⟩) ?_
    refine FSteps.cons (FStep.plain rfl fun a w hS hE => OpTo.row _ (.tmp 7) rfl (gg) (hE 7 (by kernel_rfl)) (cellsZ p) _ (rgp.out w hS) Try.underlying24 rfl ilp.out ⟨dOf.of 20 rfl ⟨p, Rp.out, Fp.out, rfl⟩, hS⟩) ?_
    refine FSteps.cons (FStep.plain rfl fun a w hS hE => OpTo.call #[a.tmps.getD 19 undef, a.tmps.getD 20 undef] rfl Try.func14 (by kernel_rfl) (by kernel_rfl) (args2 ..) ((add_v (hE 19 (by kernel_rfl)) (hE 20 (by kernel_rfl)) w).mono fun _ _ h => Gives.to hS 21 rfl (fun _ h => h) h)) ?_
    refine FSteps.cons (FStep.plain rfl fun a w hS hE => OpTo.call #[a.tmps.getD 18 undef, a.tmps.getD 21 undef] rfl Try.func22 (by kernel_rfl) (by kernel_rfl) (args2 ..) ((same_v (hE 18 (by kernel_rfl)) (hE 21 (by kernel_rfl)) K22.out w).mono fun _ _ h => Gives.to hS 22 rfl (fun _ h => h) h)) ?_
    refine FSteps.cons (FStep.plain rfl fun a w hS hE => OpTo.not true rfl (hE 22 (by kernel_rfl)) ⟨dOf.of 23 rfl (Eq.refl (Value.bool false)), hS⟩) ?_
    refine FSteps.cons (FStep.plain rfl fun a w hS hE => OpTo.move rfl ⟨dOf.of 24 rfl (hE 23 (by kernel_rfl)), hS⟩) ?_
    refine FSteps.cons (FStep.go 24 rfl rfl (fun _ h => h) fun a w hS hE => OpTo.row _ (.tmp 7) rfl (gg) (hE 7 (by kernel_rfl)) (cellsZ p) _ (rgp.out w hS) Try.underlying24 rfl ilp.out ⟨dOf.of 25 rfl ⟨p, Rp.out, Fp.out, rfl⟩, hS⟩) ?_
    refine FSteps.cons (FStep.go 24 rfl rfl (fun _ h => h) fun a w hS hE => OpTo.row _ (.tmp 8) rfl (gg + 1) (hE 8 (by kernel_rfl)) (cellsZ q) _ (rgq.out w hS) Try.underlying24 rfl ilq.out ⟨dOf.of 26 rfl ⟨q, Rq.out, Fq.out, rfl⟩, hS⟩) ?_
    refine FSteps.cons (FStep.go 24 rfl rfl (fun _ h => h) fun a w hS hE => OpTo.call #[a.tmps.getD 25 undef, a.tmps.getD 26 undef] rfl Try.func18 (by kernel_rfl) (by kernel_rfl) (args2 ..) ((mul_v (hE 25 (by kernel_rfl)) (hE 26 (by kernel_rfl)) w).mono fun _ _ h => Gives.to hS 27 rfl (fun _ h => h) h)) ?_
    refine FSteps.cons (FStep.go 24 rfl rfl (fun _ h => h) fun a w hS hE => OpTo.row _ (.tmp 8) rfl (gg + 1) (hE 8 (by kernel_rfl)) (cellsZ q) _ (rgq.out w hS) Try.underlying24 rfl ilq.out ⟨dOf.of 28 rfl ⟨q, Rq.out, Fq.out, rfl⟩, hS⟩) ?_
    refine FSteps.cons (FStep.go 24 rfl rfl (fun _ h => h) fun a w hS hE => OpTo.row _ (.tmp 7) rfl (gg) (hE 7 (by kernel_rfl)) (cellsZ p) _ (rgp.out w hS) Try.underlying24 rfl ilp.out ⟨dOf.of 29 rfl ⟨p, Rp.out, Fp.out, rfl⟩, hS⟩) ?_
    refine FSteps.cons (FStep.go 24 rfl rfl (fun _ h => h) fun a w hS hE => OpTo.call #[a.tmps.getD 28 undef, a.tmps.getD 29 undef] rfl Try.func18 (by kernel_rfl) (by kernel_rfl) (args2 ..) ((mul_v (hE 28 (by kernel_rfl)) (hE 29 (by kernel_rfl)) w).mono fun _ _ h => Gives.to hS 30 rfl (fun _ h => h) h)) ?_
    refine FSteps.cons (FStep.go 24 rfl rfl (fun _ h => h) fun a w hS hE => OpTo.call #[a.tmps.getD 27 undef, a.tmps.getD 30 undef] rfl Try.func22 (by kernel_rfl) (by kernel_rfl) (args2 ..) ((same_v (hE 27 (by kernel_rfl)) (hE 30 (by kernel_rfl)) K31.out w).mono fun _ _ h => Gives.to hS 31 rfl (fun _ h => h) h)) ?_
    refine FSteps.cons (FStep.go 24 rfl rfl (fun _ h => h) fun a w hS hE => OpTo.not true rfl (hE 31 (by kernel_rfl)) ⟨dOf.of 32 rfl (Eq.refl (Value.bool false)), hS⟩) ?_
    refine FSteps.cons (FStep.plain rfl fun a w hS hE => OpTo.pick false rfl (hE 24 (by kernel_rfl)) ⟨dOf.of 33 rfl (hE 32 (by kernel_rfl)), hS⟩) ?_
    refine FSteps.cons (FStep.plain rfl fun a w hS hE => OpTo.move rfl ⟨dOf.of 34 rfl (hE 33 (by kernel_rfl)), hS⟩) ?_
    refine FSteps.cons (FStep.go 34 rfl rfl (fun _ h => h) fun a w hS hE => OpTo.row _ (.tmp 7) rfl (gg) (hE 7 (by kernel_rfl)) (cellsZ p) _ (rgp.out w hS) Try.underlying24 rfl ilp.out ⟨dOf.of 35 rfl ⟨p, Rp.out, Fp.out, rfl⟩, hS⟩) ?_
    refine FSteps.cons (FStep.go 34 rfl rfl (fun _ h => h) fun a w hS hE => OpTo.row _ (.tmp 8) rfl (gg + 1) (hE 8 (by kernel_rfl)) (cellsZ q) _ (rgq.out w hS) Try.underlying24 rfl ilq.out ⟨dOf.of 36 rfl ⟨q, Rq.out, Fq.out, rfl⟩, hS⟩) ?_
    refine FSteps.cons (FStep.go 34 rfl rfl (fun _ h => h) fun a w hS hE => OpTo.call #[a.tmps.getD 35 undef, a.tmps.getD 36 undef] rfl Try.func14 (by kernel_rfl) (by kernel_rfl) (args2 ..) ((add_v (hE 35 (by kernel_rfl)) (hE 36 (by kernel_rfl)) w).mono fun _ _ h => Gives.to hS 37 rfl (fun _ h => h) h)) ?_
    refine FSteps.cons (FStep.go 34 rfl rfl (fun _ h => h) fun a w hS hE => OpTo.row _ (.tmp 9) rfl (gg + 2) (hE 9 (by kernel_rfl)) (cellsZ r) _ (rgr.out w hS) Try.underlying24 rfl ilr.out ⟨dOf.of 38 rfl ⟨r, Rr.out, Fr.out, rfl⟩, hS⟩) ?_
    refine FSteps.cons (FStep.go 34 rfl rfl (fun _ h => h) fun a w hS hE => OpTo.call #[a.tmps.getD 37 undef, a.tmps.getD 38 undef] rfl Try.func14 (by kernel_rfl) (by kernel_rfl) (args2 ..) ((add_v (hE 37 (by kernel_rfl)) (hE 38 (by kernel_rfl)) w).mono fun _ _ h => Gives.to hS 39 rfl (fun _ h => h) h)) ?_
    refine FSteps.cons (FStep.go 34 rfl rfl (fun _ h => h) fun a w hS hE => OpTo.row _ (.tmp 7) rfl (gg) (hE 7 (by kernel_rfl)) (cellsZ p) _ (rgp.out w hS) Try.underlying24 rfl ilp.out ⟨dOf.of 40 rfl ⟨p, Rp.out, Fp.out, rfl⟩, hS⟩) ?_
    refine FSteps.cons (FStep.go 34 rfl rfl (fun _ h => h) fun a w hS hE => OpTo.row _ (.tmp 8) rfl (gg + 1) (hE 8 (by kernel_rfl)) (cellsZ q) _ (rgq.out w hS) Try.underlying24 rfl ilq.out ⟨dOf.of 41 rfl ⟨q, Rq.out, Fq.out, rfl⟩, hS⟩) ?_
    refine FSteps.cons (FStep.go 34 rfl rfl (fun _ h => h) fun a w hS hE => OpTo.row _ (.tmp 9) rfl (gg + 2) (hE 9 (by kernel_rfl)) (cellsZ r) _ (rgr.out w hS) Try.underlying24 rfl ilr.out ⟨dOf.of 42 rfl ⟨r, Rr.out, Fr.out, rfl⟩, hS⟩) ?_
    refine FSteps.cons (FStep.go 34 rfl rfl (fun _ h => h) fun a w hS hE => OpTo.call #[a.tmps.getD 41 undef, a.tmps.getD 42 undef] rfl Try.func14 (by kernel_rfl) (by kernel_rfl) (args2 ..) ((add_v (hE 41 (by kernel_rfl)) (hE 42 (by kernel_rfl)) w).mono fun _ _ h => Gives.to hS 43 rfl (fun _ h => h) h)) ?_
    refine FSteps.cons (FStep.go 34 rfl rfl (fun _ h => h) fun a w hS hE => OpTo.call #[a.tmps.getD 40 undef, a.tmps.getD 43 undef] rfl Try.func14 (by kernel_rfl) (by kernel_rfl) (args2 ..) ((add_v (hE 40 (by kernel_rfl)) (hE 43 (by kernel_rfl)) w).mono fun _ _ h => Gives.to hS 44 rfl (fun _ h => h) h)) ?_
    refine FSteps.cons (FStep.go 34 rfl rfl (fun _ h => h) fun a w hS hE => OpTo.call #[a.tmps.getD 39 undef, a.tmps.getD 44 undef] rfl Try.func22 (by kernel_rfl) (by kernel_rfl) (args2 ..) ((same_v (hE 39 (by kernel_rfl)) (hE 44 (by kernel_rfl)) K45.out w).mono fun _ _ h => Gives.to hS 45 rfl (fun _ h => h) h)) ?_
    refine FSteps.cons (FStep.go 34 rfl rfl (fun _ h => h) fun a w hS hE => OpTo.not true rfl (hE 45 (by kernel_rfl)) ⟨dOf.of 46 rfl (Eq.refl (Value.bool false)), hS⟩) ?_
    refine FSteps.cons (FStep.plain rfl fun a w hS hE => OpTo.pick false rfl (hE 34 (by kernel_rfl)) ⟨dOf.of 47 rfl (hE 46 (by kernel_rfl)), hS⟩) ?_
    refine FSteps.cons (FStep.plain rfl fun a w hS hE => OpTo.move rfl ⟨dOf.of 48 rfl (hE 47 (by kernel_rfl)), hS⟩) ?_
    refine FSteps.cons (FStep.go 48 rfl rfl (fun _ h => h) fun a w hS hE => OpTo.row _ (.tmp 7) rfl (gg) (hE 7 (by kernel_rfl)) (cellsZ p) _ (rgp.out w hS) Try.underlying24 rfl ilp.out ⟨dOf.of 49 rfl ⟨p, Rp.out, Fp.out, rfl⟩, hS⟩) ?_
    refine FSteps.cons (FStep.go 48 rfl rfl (fun _ h => h) fun a w hS hE => OpTo.row _ (.tmp 8) rfl (gg + 1) (hE 8 (by kernel_rfl)) (cellsZ q) _ (rgq.out w hS) Try.underlying24 rfl ilq.out ⟨dOf.of 50 rfl ⟨q, Rq.out, Fq.out, rfl⟩, hS⟩) ?_
    refine FSteps.cons (FStep.go 48 rfl rfl (fun _ h => h) fun a w hS hE => OpTo.call #[a.tmps.getD 49 undef, a.tmps.getD 50 undef] rfl Try.func18 (by kernel_rfl) (by kernel_rfl) (args2 ..) ((mul_v (hE 49 (by kernel_rfl)) (hE 50 (by kernel_rfl)) w).mono fun _ _ h => Gives.to hS 51 rfl (fun _ h => h) h)) ?_
    refine FSteps.cons (FStep.go 48 rfl rfl (fun _ h => h) fun a w hS hE => OpTo.row _ (.tmp 9) rfl (gg + 2) (hE 9 (by kernel_rfl)) (cellsZ r) _ (rgr.out w hS) Try.underlying24 rfl ilr.out ⟨dOf.of 52 rfl ⟨r, Rr.out, Fr.out, rfl⟩, hS⟩) ?_
    refine FSteps.cons (FStep.go 48 rfl rfl (fun _ h => h) fun a w hS hE => OpTo.call #[a.tmps.getD 51 undef, a.tmps.getD 52 undef] rfl Try.func18 (by kernel_rfl) (by kernel_rfl) (args2 ..) ((mul_v (hE 51 (by kernel_rfl)) (hE 52 (by kernel_rfl)) w).mono fun _ _ h => Gives.to hS 53 rfl (fun _ h => h) h)) ?_
    refine FSteps.cons (FStep.go 48 rfl rfl (fun _ h => h) fun a w hS hE => OpTo.row _ (.tmp 7) rfl (gg) (hE 7 (by kernel_rfl)) (cellsZ p) _ (rgp.out w hS) Try.underlying24 rfl ilp.out ⟨dOf.of 54 rfl ⟨p, Rp.out, Fp.out, rfl⟩, hS⟩) ?_
    refine FSteps.cons (FStep.go 48 rfl rfl (fun _ h => h) fun a w hS hE => OpTo.row _ (.tmp 8) rfl (gg + 1) (hE 8 (by kernel_rfl)) (cellsZ q) _ (rgq.out w hS) Try.underlying24 rfl ilq.out ⟨dOf.of 55 rfl ⟨q, Rq.out, Fq.out, rfl⟩, hS⟩) ?_
    refine FSteps.cons (FStep.go 48 rfl rfl (fun _ h => h) fun a w hS hE => OpTo.row _ (.tmp 9) rfl (gg + 2) (hE 9 (by kernel_rfl)) (cellsZ r) _ (rgr.out w hS) Try.underlying24 rfl ilr.out ⟨dOf.of 56 rfl ⟨r, Rr.out, Fr.out, rfl⟩, hS⟩) ?_
    refine FSteps.cons (FStep.go 48 rfl rfl (fun _ h => h) fun a w hS hE => OpTo.call #[a.tmps.getD 55 undef, a.tmps.getD 56 undef] rfl Try.func18 (by kernel_rfl) (by kernel_rfl) (args2 ..) ((mul_v (hE 55 (by kernel_rfl)) (hE 56 (by kernel_rfl)) w).mono fun _ _ h => Gives.to hS 57 rfl (fun _ h => h) h)) ?_
    refine FSteps.cons (FStep.go 48 rfl rfl (fun _ h => h) fun a w hS hE => OpTo.call #[a.tmps.getD 54 undef, a.tmps.getD 57 undef] rfl Try.func18 (by kernel_rfl) (by kernel_rfl) (args2 ..) ((mul_v (hE 54 (by kernel_rfl)) (hE 57 (by kernel_rfl)) w).mono fun _ _ h => Gives.to hS 58 rfl (fun _ h => h) h)) ?_
    refine FSteps.cons (FStep.go 48 rfl rfl (fun _ h => h) fun a w hS hE => OpTo.call #[a.tmps.getD 53 undef, a.tmps.getD 58 undef] rfl Try.func22 (by kernel_rfl) (by kernel_rfl) (args2 ..) ((same_v (hE 53 (by kernel_rfl)) (hE 58 (by kernel_rfl)) K59.out w).mono fun _ _ h => Gives.to hS 59 rfl (fun _ h => h) h)) ?_
    refine FSteps.cons (FStep.go 48 rfl rfl (fun _ h => h) fun a w hS hE => OpTo.not true rfl (hE 59 (by kernel_rfl)) ⟨dOf.of 60 rfl (Eq.refl (Value.bool false)), hS⟩) ?_
    refine FSteps.cons (FStep.plain rfl fun a w hS hE => OpTo.pick false rfl (hE 48 (by kernel_rfl)) ⟨dOf.of 61 rfl (hE 60 (by kernel_rfl)), hS⟩) ?_
    exact FSteps.nil
  intro f wx hS hF
  obtain ⟨h61, -⟩ := hF
  replace h61 : f 61 = .bool false := h61
  (try simp only [Act.put])
  simp only [setAll, List.setIfInBounds_toArray, List.set_cons_zero, List.set_cons_succ, h61]
  replace Bp := Lib.hid (Bp.out.touch hS (by simp))
  replace Bq := Lib.hid (Bq.out.touch hS (by simp))
  replace Br := Lib.hid (Br.out.touch hS (by simp))
  replace HT := Lib.hid (HT.out.trans hS)
  clear hS rgp rgq rgr
  rename World => w2
  clear h61
  go_upto_region 4 with fail
  have rgp := Lib.hid (range_far Bp.out)
  have rgq := Lib.hid (range_far Bq.out)
  have rgr := Lib.hid (range_far Br.out)
  skip
  refine wp_region_flow (by kernel_rfl) (fun W => Touch [] w2 W) (look [(6, isB true), (7, isP (gg)), (8, isP (gg + 1)), (9, isP (gg + 2)), (62, EV (X)), (63, EV (Y)), (64, EV (addF (X) (Y))), (65, EV (Z)), (66, EV (mulF (addF (X) (Y)) (Z))), (67, EV (X)), (68, EV (Z)), (69, EV (mulF (X) (Z))), (70, EV (Y)), (71, EV (Z)), (72, EV (mulF (Y) (Z))), (73, EV (addF (mulF (X) (Z)) (mulF (Y) (Z)))), (74, isB true), (75, isB true), (76, EV (X)), (77, EV (Y)), (78, EV (subF (X) (Y))), (79, EV (Y)), (80, EV (addF (subF (X) (Y)) (Y))), (81, EV (X)), (82, isB true), (83, isB true), (84, isB true), (85, EV (X)), (86, EV (1)), (87, EV (mulF (X) (1))), (88, EV (X)), (89, isB true), (90, isB true), (91, isB true), (92, EV (X)), (93, EV (0)), (94, EV (addF (X) (0))), (95, EV (X)), (96, isB true), (97, isB true), (98, isB true), (99, EV (X)), (100, EV (X)), (101, EV (subF (X) (X))), (102, isB true), (103, isB true), (104, isB true), (105, EV (X)), (106, EV (negF (X))), (107, EV (negF (negF (X)))), (108, EV (X)), (109, isB true), (110, isB true), (111, isB true), (112, EV (X)), (113, EV (0)), (114, EV (mulF (X) (0))), (115, isB true), (116, isB true), (117, isB true), (118, isB true), (119, isB true)]) [7, 8, 9] [62, 63, 64, 65, 66, 67, 68, 69, 70, 71, 72, 73, 74, 75, 76, 77, 78, 79, 80, 81, 82, 83, 84, 85, 86, 87, 88, 89, 90, 91, 92, 93, 94, 95, 96, 97, 98, 99, 100, 101, 102, 103, 104, 105, 106, 107, 108, 109, 110, 111, 112, 113, 114, 115, 116, 117, 118, 119, 6] [6] (by kernel_rfl) (by kernel_rfl) (by kernel_rfl) (by kernel_rfl) (by first | exact (Touch.refl _ _).drew | assumption) ⟨rfl, rfl, rfl, trivial⟩ ?_ ?_
  · refine FSteps.cons (FStep.plain rfl fun a w hS hE => OpTo.row _ (.tmp 7) rfl (gg) (hE 7 (by kernel_rfl)) (cellsZ p) _ (rgp.out w hS) Try.underlying24 rfl ilp.out ⟨dOf.of 62 rfl ⟨p, Rp.out, Fp.out, rfl⟩, hS⟩) ?_
    refine FSteps.cons (FStep.plain rfl fun a w hS hE => OpTo.row _ (.tmp 8) rfl (gg + 1) (hE 8 (by kernel_rfl)) (cellsZ q) _ (rgq.out w hS) Try.underlying24 rfl ilq.out ⟨dOf.of 63 rfl ⟨q, Rq.out, Fq.out, rfl⟩, hS⟩) ?_
    refine FSteps.cons (FStep.plain rfl fun a w hS hE => OpTo.call #[a.tmps.getD 62 undef, a.tmps.getD 63 undef] rfl Try.func14 (by kernel_rfl) (by kernel_rfl) (args2 ..) ((add_v (hE 62 (by kernel_rfl)) (hE 63 (by kernel_rfl)) w).mono fun _ _ h => Gives.to hS 64 rfl (fun _ h => h) h)) ?_
    refine FSteps.cons (FStep.plain rfl fun a w hS hE => OpTo.row _ (.tmp 9) rfl (gg + 2) (hE 9 (by kernel_rfl)) (cellsZ r) _ (rgr.out w hS) Try.underlying24 rfl ilr.out ⟨dOf.of 65 rfl ⟨r, Rr.out, Fr.out, rfl⟩, hS⟩) ?_
    refine FSteps.cons (FStep.plain rfl fun a w hS hE => OpTo.call #[a.tmps.getD 64 undef, a.tmps.getD 65 undef] rfl Try.func18 (by kernel_rfl) (by kernel_rfl) (args2 ..) ((mul_v (hE 64 (by kernel_rfl)) (hE 65 (by kernel_rfl)) w).mono fun _ _ h => Gives.to hS 66 rfl (fun _ h => h) h)) ?_
    refine FSteps.cons (FStep.plain rfl fun a w hS hE => OpTo.row _ (.tmp 7) rfl (gg) (hE 7 (by kernel_rfl)) (cellsZ p) _ (rgp.out w hS) Try.underlying24 rfl ilp.out ⟨dOf.of 67 rfl ⟨p, Rp.out, Fp.out, rfl⟩, hS⟩) ?_
    refine FSteps.cons (FStep.plain rfl fun a w hS hE => OpTo.row _ (.tmp 9) rfl (gg + 2) (hE 9 (by kernel_rfl)) (cellsZ r) _ (rgr.out w hS) Try.underlying24 rfl ilr.out ⟨dOf.of 68 rfl ⟨r, Rr.out, Fr.out, rfl⟩, hS⟩) ?_
    refine FSteps.cons (FStep.plain rfl fun a w hS hE => OpTo.call #[a.tmps.getD 67 undef, a.tmps.getD 68 undef] rfl Try.func18 (by kernel_rfl) (by kernel_rfl) (args2 ..) ((mul_v (hE 67 (by kernel_rfl)) (hE 68 (by kernel_rfl)) w).mono fun _ _ h => Gives.to hS 69 rfl (fun _ h => h) h)) ?_
    refine FSteps.cons (FStep.plain rfl fun a w hS hE => OpTo.row _ (.tmp 8) rfl (gg + 1) (hE 8 (by kernel_rfl)) (cellsZ q) _ (rgq.out w hS) Try.underlying24 rfl ilq.out ⟨dOf.of 70 rfl ⟨q, Rq.out, Fq.out, rfl⟩, hS⟩) ?_
    refine FSteps.cons (FStep.plain rfl fun a w hS hE => OpTo.row _ (.tmp 9) rfl (gg + 2) (hE 9 (by kernel_rfl)) (cellsZ r) _ (rgr.out w hS) Try.underlying24 rfl ilr.out ⟨dOf.of 71 rfl ⟨r, Rr.out, Fr.out, rfl⟩, hS⟩) ?_
    refine FSteps.cons (FStep.plain rfl fun a w hS hE => OpTo.call #[a.tmps.getD 70 undef, a.tmps.getD 71 undef] rfl Try.func18 (by kernel_rfl) (by kernel_rfl) (args2 ..) ((mul_v (hE 70 (by kernel_rfl)) (hE 71 (by kernel_rfl)) w).mono fun _ _ h => Gives.to hS 72 rfl (fun _ h => h) h)) ?_
    refine FSteps.cons (FStep.plain rfl fun a w hS hE => OpTo.call #[a.tmps.getD 69 undef, a.tmps.getD 72 undef] rfl Try.func14 (by kernel_rfl) (by kernel_rfl) (args2 ..) ((add_v (hE 69 (by kernel_rfl)) (hE 72 (by kernel_rfl)) w).mono fun _ _ h => Gives.to hS 73 rfl (fun _ h => h) h)) ?_
    refine FSteps.cons (FStep.plain rfl fun a w hS hE => OpTo.call #[a.tmps.getD 66 undef, a.tmps.getD 73 undef] rfl Try.func22 (by kernel_rfl) (by kernel_rfl) (args2 ..) ((same_v (hE 66 (by kernel_rfl)) (hE 73 (by kernel_rfl)) K74.out w).mono fun _ _ h => Gives.to hS 74 rfl (fun _ h => h) h)) ?_
    refine FSteps.cons (FStep.plain rfl fun a w hS hE => OpTo.move rfl ⟨dOf.of 75 rfl (hE 74 (by kernel_rfl)), hS⟩) ?_
    refine FSteps.cons (FStep.go 75 rfl rfl (fun _ h => h) fun a w hS hE => OpTo.row _ (.tmp 7) rfl (gg) (hE 7 (by kernel_rfl)) (cellsZ p) _ (rgp.out w hS) Try.underlying24 rfl ilp.out ⟨dOf.of 76 rfl ⟨p, Rp.out, Fp.out, rfl⟩, hS⟩) ?_
    refine FSteps.cons (FStep.go 75 rfl rfl (fun _ h => h) fun a w hS hE => OpTo.row _ (.tmp 8) rfl (gg + 1) (hE 8 (by kernel_rfl)) (cellsZ q) _ (rgq.out w hS) Try.underlying24 rfl ilq.out ⟨dOf.of 77 rfl ⟨q, Rq.out, Fq.out, rfl⟩, hS⟩) ?_
    refine FSteps.cons (FStep.go 75 rfl rfl (fun _ h => h) fun a w hS hE => OpTo.call #[a.tmps.getD 76 undef, a.tmps.getD 77 undef] rfl Try.func16 (by kernel_rfl) (by kernel_rfl) (args2 ..) ((sub_v (hE 76 (by kernel_rfl)) (hE 77 (by kernel_rfl)) w).mono fun _ _ h => Gives.to hS 78 rfl (fun _ h => h) h)) ?_
    refine FSteps.cons (FStep.go 75 rfl rfl (fun _ h => h) fun a w hS hE => OpTo.row _ (.tmp 8) rfl (gg + 1) (hE 8 (by kernel_rfl)) (cellsZ q) _ (rgq.out w hS) Try.underlying24 rfl ilq.out ⟨dOf.of 79 rfl ⟨q, Rq.out, Fq.out, rfl⟩, hS⟩) ?_
    refine FSteps.cons (FStep.go 75 rfl rfl (fun _ h => h) fun a w hS hE => OpTo.call #[a.tmps.getD 78 undef, a.tmps.getD 79 undef] rfl Try.func14 (by kernel_rfl) (by kernel_rfl) (args2 ..) ((add_v (hE 78 (by kernel_rfl)) (hE 79 (by kernel_rfl)) w).mono fun _ _ h => Gives.to hS 80 rfl (fun _ h => h) h)) ?_
    refine FSteps.cons (FStep.go 75 rfl rfl (fun _ h => h) fun a w hS hE => OpTo.row _ (.tmp 7) rfl (gg) (hE 7 (by kernel_rfl)) (cellsZ p) _ (rgp.out w hS) Try.underlying24 rfl ilp.out ⟨dOf.of 81 rfl ⟨p, Rp.out, Fp.out, rfl⟩, hS⟩) ?_
    refine FSteps.cons (FStep.go 75 rfl rfl (fun _ h => h) fun a w hS hE => OpTo.call #[a.tmps.getD 80 undef, a.tmps.getD 81 undef] rfl Try.func22 (by kernel_rfl) (by kernel_rfl) (args2 ..) ((same_v (hE 80 (by kernel_rfl)) (hE 81 (by kernel_rfl)) K82.out w).mono fun _ _ h => Gives.to hS 82 rfl (fun _ h => h) h)) ?_
    refine FSteps.cons (FStep.plain rfl fun a w hS hE => OpTo.pick true rfl (hE 75 (by kernel_rfl)) ⟨dOf.of 83 rfl (hE 82 (by kernel_rfl)), hS⟩) ?_
    refine FSteps.cons (FStep.plain rfl fun a w hS hE => OpTo.move rfl ⟨dOf.of 84 rfl (hE 83 (by kernel_rfl)), hS⟩) ?_
    refine FSteps.cons (FStep.go 84 rfl rfl (fun _ h => h) fun a w hS hE => OpTo.row _ (.tmp 7) rfl (gg) (hE 7 (by kernel_rfl)) (cellsZ p) _ (rgp.out w hS) Try.underlying24 rfl ilp.out ⟨dOf.of 85 rfl ⟨p, Rp.out, Fp.out, rfl⟩, hS⟩) ?_
    refine FSteps.cons (FStep.go 84 rfl rfl (fun _ h => h) fun a w hS hE => OpTo.call #[.int .u64 1] rfl Try.func30 (by kernel_rfl) (by kernel_rfl) (args1 ..) ((num_v 1 (by omega) w).mono fun _ _ h => Gives.to hS 86 rfl (fun _ h => h) h)) ?_
    refine FSteps.cons (FStep.go 84 rfl rfl (fun _ h => h) fun a w hS hE => OpTo.call #[a.tmps.getD 85 undef, a.tmps.getD 86 undef] rfl Try.func18 (by kernel_rfl) (by kernel_rfl) (args2 ..) ((mul_v (hE 85 (by kernel_rfl)) (hE 86 (by kernel_rfl)) w).mono fun _ _ h => Gives.to hS 87 rfl (fun _ h => h) h)) ?_
    refine FSteps.cons (FStep.go 84 rfl rfl (fun _ h => h) fun a w hS hE => OpTo.row _ (.tmp 7) rfl (gg) (hE 7 (by kernel_rfl)) (cellsZ p) _ (rgp.out w hS) Try.underlying24 rfl ilp.out ⟨dOf.of 88 rfl ⟨p, Rp.out, Fp.out, rfl⟩, hS⟩) ?_
    refine FSteps.cons (FStep.go 84 rfl rfl (fun _ h => h) fun a w hS hE => OpTo.call #[a.tmps.getD 87 undef, a.tmps.getD 88 undef] rfl Try.func22 (by kernel_rfl) (by kernel_rfl) (args2 ..) ((same_v (hE 87 (by kernel_rfl)) (hE 88 (by kernel_rfl)) K89.out w).mono fun _ _ h => Gives.to hS 89 rfl (fun _ h => h) h)) ?_
    refine FSteps.cons (FStep.plain rfl fun a w hS hE => OpTo.pick true rfl (hE 84 (by kernel_rfl)) ⟨dOf.of 90 rfl (hE 89 (by kernel_rfl)), hS⟩) ?_
    refine FSteps.cons (FStep.plain rfl fun a w hS hE => OpTo.move rfl ⟨dOf.of 91 rfl (hE 90 (by kernel_rfl)), hS⟩) ?_
    refine FSteps.cons (FStep.go 91 rfl rfl (fun _ h => h) fun a w hS hE => OpTo.row _ (.tmp 7) rfl (gg) (hE 7 (by kernel_rfl)) (cellsZ p) _ (rgp.out w hS) Try.underlying24 rfl ilp.out ⟨dOf.of 92 rfl ⟨p, Rp.out, Fp.out, rfl⟩, hS⟩) ?_
    refine FSteps.cons (FStep.go 91 rfl rfl (fun _ h => h) fun a w hS hE => build_v rfl fun v hv => ⟨dOf.of 93 rfl hv, hS⟩) ?_
    refine FSteps.cons (FStep.go 91 rfl rfl (fun _ h => h) fun a w hS hE => OpTo.call #[a.tmps.getD 92 undef, a.tmps.getD 93 undef] rfl Try.func14 (by kernel_rfl) (by kernel_rfl) (args2 ..) ((add_v (hE 92 (by kernel_rfl)) (hE 93 (by kernel_rfl)) w).mono fun _ _ h => Gives.to hS 94 rfl (fun _ h => h) h)) ?_
    refine FSteps.cons (FStep.go 91 rfl rfl (fun _ h => h) fun a w hS hE => OpTo.row _ (.tmp 7) rfl (gg) (hE 7 (by kernel_rfl)) (cellsZ p) _ (rgp.out w hS) Try.underlying24 rfl ilp.out ⟨dOf.of 95 rfl ⟨p, Rp.out, Fp.out, rfl⟩, hS⟩) ?_
    refine FSteps.cons (FStep.go 91 rfl rfl (fun _ h => h) fun a w hS hE => OpTo.call #[a.tmps.getD 94 undef, a.tmps.getD 95 undef] rfl Try.func22 (by kernel_rfl) (by kernel_rfl) (args2 ..) ((same_v (hE 94 (by kernel_rfl)) (hE 95 (by kernel_rfl)) K96.out w).mono fun _ _ h => Gives.to hS 96 rfl (fun _ h => h) h)) ?_
    refine FSteps.cons (FStep.plain rfl fun a w hS hE => OpTo.pick true rfl (hE 91 (by kernel_rfl)) ⟨dOf.of 97 rfl (hE 96 (by kernel_rfl)), hS⟩) ?_
    refine FSteps.cons (FStep.plain rfl fun a w hS hE => OpTo.move rfl ⟨dOf.of 98 rfl (hE 97 (by kernel_rfl)), hS⟩) ?_
    refine FSteps.cons (FStep.go 98 rfl rfl (fun _ h => h) fun a w hS hE => OpTo.row _ (.tmp 7) rfl (gg) (hE 7 (by kernel_rfl)) (cellsZ p) _ (rgp.out w hS) Try.underlying24 rfl ilp.out ⟨dOf.of 99 rfl ⟨p, Rp.out, Fp.out, rfl⟩, hS⟩) ?_
    refine FSteps.cons (FStep.go 98 rfl rfl (fun _ h => h) fun a w hS hE => OpTo.row _ (.tmp 7) rfl (gg) (hE 7 (by kernel_rfl)) (cellsZ p) _ (rgp.out w hS) Try.underlying24 rfl ilp.out ⟨dOf.of 100 rfl ⟨p, Rp.out, Fp.out, rfl⟩, hS⟩) ?_
    refine FSteps.cons (FStep.go 98 rfl rfl (fun _ h => h) fun a w hS hE => OpTo.call #[a.tmps.getD 99 undef, a.tmps.getD 100 undef] rfl Try.func16 (by kernel_rfl) (by kernel_rfl) (args2 ..) ((sub_v (hE 99 (by kernel_rfl)) (hE 100 (by kernel_rfl)) w).mono fun _ _ h => Gives.to hS 101 rfl (fun _ h => h) h)) ?_
    refine FSteps.cons (FStep.go 98 rfl rfl (fun _ h => h) fun a w hS hE => OpTo.call #[a.tmps.getD 101 undef] rfl Try.func25 (by kernel_rfl) (by kernel_rfl) (args1 ..) ((zero_v (hE 101 (by kernel_rfl)) K102.out w).mono fun _ _ h => Gives.to hS 102 rfl (fun _ h => h) h)) ?_
    refine FSteps.cons (FStep.plain rfl fun a w hS hE => OpTo.pick true rfl (hE 98 (by kernel_rfl)) ⟨dOf.of 103 rfl (hE 102 (by kernel_rfl)), hS⟩) ?_
    refine FSteps.cons (FStep.plain rfl fun a w hS hE => OpTo.move rfl ⟨dOf.of 104 rfl (hE 103 (by kernel_rfl)), hS⟩) ?_
    refine FSteps.cons (FStep.go 104 rfl rfl (fun _ h => h) fun a w hS hE => OpTo.row _ (.tmp 7) rfl (gg) (hE 7 (by kernel_rfl)) (cellsZ p) _ (rgp.out w hS) Try.underlying24 rfl ilp.out ⟨dOf.of 105 rfl ⟨p, Rp.out, Fp.out, rfl⟩, hS⟩) ?_
    refine FSteps.cons (FStep.go 104 rfl rfl (fun _ h => h) fun a w hS hE => OpTo.call #[a.tmps.getD 105 undef] rfl Try.func20 (by kernel_rfl) (by kernel_rfl) (args1 ..) ((neg_v (hE 105 (by kernel_rfl)) w).mono fun _ _ h => Gives.to hS 106 rfl (fun _ h => h) h)) ?_
    refine FSteps.cons (FStep.go 104 rfl rfl (fun _ h => h) fun a w hS hE => OpTo.call #[a.tmps.getD 106 undef] rfl Try.func20 (by kernel_rfl) (by kernel_rfl) (args1 ..) ((neg_v (hE 106 (by kernel_rfl)) w).mono fun _ _ h => Gives.to hS 107 rfl (fun _ h => h) h)) ?_
    refine FSteps.cons (FStep.go 104 rfl rfl (fun _ h => h) fun a w hS hE => OpTo.row _ (.tmp 7) rfl (gg) (hE 7 (by kernel_rfl)) (cellsZ p) _ (rgp.out w hS) Try.underlying24 rfl ilp.out ⟨dOf.of 108 rfl ⟨p, Rp.out, Fp.out, rfl⟩, hS⟩) ?_
    refine FSteps.cons (FStep.go 104 rfl rfl (fun _ h => h) fun a w hS hE => OpTo.call #[a.tmps.getD 107 undef, a.tmps.getD 108 undef] rfl Try.func22 (by kernel_rfl) (by kernel_rfl) (args2 ..) ((same_v (hE 107 (by kernel_rfl)) (hE 108 (by kernel_rfl)) K109.out w).mono fun _ _ h => Gives.to hS 109 rfl (fun _ h => h) h)) ?_
    refine FSteps.cons (FStep.plain rfl fun a w hS hE => OpTo.pick true rfl (hE 104 (by kernel_rfl)) ⟨dOf.of 110 rfl (hE 109 (by kernel_rfl)), hS⟩) ?_
    refine FSteps.cons (FStep.plain rfl fun a w hS hE => OpTo.move rfl ⟨dOf.of 111 rfl (hE 110 (by kernel_rfl)), hS⟩) ?_
    refine FSteps.cons (FStep.go 111 rfl rfl (fun _ h => h) fun a w hS hE => OpTo.row _ (.tmp 7) rfl (gg) (hE 7 (by kernel_rfl)) (cellsZ p) _ (rgp.out w hS) Try.underlying24 rfl ilp.out ⟨dOf.of 112 rfl ⟨p, Rp.out, Fp.out, rfl⟩, hS⟩) ?_
    refine FSteps.cons (FStep.go 111 rfl rfl (fun _ h => h) fun a w hS hE => build_v rfl fun v hv => ⟨dOf.of 113 rfl hv, hS⟩) ?_
    refine FSteps.cons (FStep.go 111 rfl rfl (fun _ h => h) fun a w hS hE => OpTo.call #[a.tmps.getD 112 undef, a.tmps.getD 113 undef] rfl Try.func18 (by kernel_rfl) (by kernel_rfl) (args2 ..) ((mul_v (hE 112 (by kernel_rfl)) (hE 113 (by kernel_rfl)) w).mono fun _ _ h => Gives.to hS 114 rfl (fun _ h => h) h)) ?_
    refine FSteps.cons (FStep.go 111 rfl rfl (fun _ h => h) fun a w hS hE => OpTo.call #[a.tmps.getD 114 undef] rfl Try.func25 (by kernel_rfl) (by kernel_rfl) (args1 ..) ((zero_v (hE 114 (by kernel_rfl)) K115.out w).mono fun _ _ h => Gives.to hS 115 rfl (fun _ h => h) h)) ?_
    refine FSteps.cons (FStep.plain rfl fun a w hS hE => OpTo.pick true rfl (hE 111 (by kernel_rfl)) ⟨dOf.of 116 rfl (hE 115 (by kernel_rfl)), hS⟩) ?_
    refine FSteps.cons (FStep.plain rfl fun a w hS hE => OpTo.move rfl ⟨dOf.of 117 rfl (hE 116 (by kernel_rfl)), hS⟩) ?_
    refine FSteps.cons (FStep.go 117 rfl rfl (fun _ h => h) fun a w hS hE => OpTo.call #[] rfl Try.func27 (by kernel_rfl) (by kernel_rfl) (args0 ..) ((fixed_v hfix w).mono fun _ _ h => Gives.to hS 118 rfl (fun _ h => h) h)) ?_
    refine FSteps.cons (FStep.plain rfl fun a w hS hE => OpTo.pick true rfl (hE 117 (by kernel_rfl)) ⟨dOf.of 119 rfl (hE 118 (by kernel_rfl)), hS⟩) ?_
    refine FSteps.cons (FStep.plain rfl fun a w hS hE => OpTo.assign rfl ⟨dOf.of 6 rfl (hE 119 (by kernel_rfl)), hS⟩) ?_
    exact FSteps.nil
  intro f wx hS hF
  obtain ⟨h6, -⟩ := hF
  replace h6 : f 6 = .bool true := h6
  simp only [setAll, List.setIfInBounds_toArray, List.set_cons_zero, List.set_cons_succ, h6]
  replace HT := Lib.hid (HT.out.trans hS)
  clear hS rgp rgq rgr Bp Bq Br
  go_wp2_with fail
  go_ret
  exact ⟨rfl, HT.out⟩
end Go.Proofs.Ytbchjefgfghjlaa
