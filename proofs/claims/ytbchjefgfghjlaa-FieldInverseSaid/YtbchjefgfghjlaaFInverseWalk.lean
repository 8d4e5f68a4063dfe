/- syngraphlaw04.FieldInverse: the walk. -/
import Derived.Test.YtbchjefgfghjlaaElem
import Derived.Test.YtbchjefgfghjlaaFLaws
import Derived.Test.YtbchjefgfghjlaaFixed04
import Derived.Test.YtbchjefgfghjlaaSeqFlow
import Derived.Test.YtbchjefgfghjlaaFField
namespace Go.Proofs.Ytbchjefgfghjlaa
open Go.RowKit
set_option maxRecDepth 100000 in
set_option maxHeartbeats 4000000 in
theorem finv_walk (hfix : FixedOk) (a b : ByteArray) (w : World) : Calls Try.prog 7 #[.string a, .string b] w fun e w' => e = .returned (.bool true) ∧ Touch [] w w' := by
  obtain ⟨X, hX⟩ : ∃ n, n = cutN a := ⟨_, rfl⟩
  have HX := Lib.hid hX.symm
  have lX : X < PP := hX ▸ cutN_lt _
  clear hX
  obtain ⟨Y, hY⟩ : ∃ n, n = cutN b := ⟨_, rfl⟩
  have HY := Lib.hid hY.symm
  have lY : Y < PP := hY ▸ cutN_lt _
  clear hY
  by_cases hx0 : X = 0
  · skip
    have K12 := Lib.hid (show decide (X = 0) = true from decide_eq_true (hx0))
    have K15 := Lib.hid (show decide (invF X = 0) = true from decide_eq_true (by rw [hx0]; exact invF_zero))
    clear lX lY hx0
    have HT := Lib.hid (Touch.refl [] w)
    go_enter Try.func7, Try.ntmps7
    go_wp2_with fail
    refine (cut_anyE a _).mono ?_
    rintro e wp ⟨p, hp, hfp, rfl, ht⟩
    have Rp := Lib.hid hp
    have Fp := Lib.hid (show fe p = X by rw [hfp, HX.out])
    replace HT := Lib.hid (HT.out.trans ht)
    clear hp hfp ht
    go_wp2_with fail
    refine (cut_anyE b _).mono ?_
    rintro e wq ⟨q, hq, hfq, rfl, ht⟩
    have Rq := Lib.hid hq
    have Fq := Lib.hid (show fe q = Y by rw [hfq, HY.out])
    replace HT := Lib.hid (HT.out.trans ht)
    clear hq hfq ht
    go_upto_region 2 with (first | (refine wpList_storeE rfl (.tmp 5) (.tmp 8) rfl (wq.heap.size) rfl p rfl 24 _ Rp.out.len rfl (z2_0 wq) ?_) | (refine wpList_storeE rfl (.tmp 6) (.tmp 10) rfl (wq.heap.size + 1) rfl q rfl 24 _ Rq.out.len rfl (Blk.frow (z2_1 wq) (by omega) _) ?_))
    obtain ⟨bp, bq, bt⟩ := boxed2 wq p q
    obtain ⟨w1, hw1⟩ : ∃ w1, w1 = ((((wq.alloc (.cells #[.int .i64 0, .int .i64 0, .int .i64 0, .int .i64 0, .int .i64 0, .int .i64 0, .int .i64 0, .int .i64 0, .int .i64 0, .int .i64 0, .int .i64 0, .int .i64 0, .int .i64 0, .int .i64 0, .int .i64 0, .int .i64 0] 24)).alloc (.cells #[.int .i64 0, .int .i64 0, .int .i64 0, .int .i64 0, .int .i64 0, .int .i64 0, .int .i64 0, .int .i64 0, .int .i64 0, .int .i64 0, .int .i64 0, .int .i64 0, .int .i64 0, .int .i64 0, .int .i64 0, .int .i64 0] 24)).setRow (wq.heap.size) (cellsZ p).toArray).setRow (wq.heap.size + 1) (cellsZ q).toArray) := ⟨_, rfl⟩
    obtain ⟨gg, hg⟩ : ∃ gg, gg = wq.heap.size := ⟨_, rfl⟩
    rw [← hw1, ← hg] at bp bq
    rw [← hw1] at bt ⊢
    rw [← hg]
    replace HT := Lib.hid (HT.out.trans bt)
    have Bp := Lib.hid bp
    have Bq := Lib.hid bq
    clear bp bq bt hw1 hg
    have ilp := Lib.hid (infoL Rp.out)
    have ilq := Lib.hid (infoL Rq.out)
    have rgp := Lib.hid (range_far Bp.out)
    have rgq := Lib.hid (range_far Bq.out)
    refine wp_region_list (wpList_flow (fun W => Touch [] w1 W) (look [(5, isP (gg)), (11, EV (X)), (12, isB true)]) [5] [11, 12] [12] (by kernel_rfl) (by kernel_rfl) (by kernel_rfl) (by first | exact Touch.refl _ _ | assumption) ⟨rfl, trivial⟩ ?_ ?_)
    · refine FSteps.cons (FStep.plain rfl fun a w hS hE => OpTo.row _ (.tmp 5) rfl (gg) (hE 5 (by kernel_rfl)) (cellsZ p) _ (rgp.out w hS) Try.underlying24 rfl ilp.out ⟨dOf.of 11 rfl ⟨p, Rp.out, Fp.out, rfl⟩, hS⟩) ?_
      refine FSteps.cons (FStep.plain rfl fun a w hS hE => OpTo.call #[a.tmps.getD 11 undef] rfl Try.func25 (by kernel_rfl) (by kernel_rfl) (args1 ..) ((zero_v (hE 11 (by kernel_rfl)) K12.out w).mono fun _ _ h => Gives.to hS 12 rfl (fun _ h => h) h)) ?_
      exact FSteps.nil
    intro f wx hS hF
    obtain ⟨h12, -⟩ := hF
    replace h12 : f 12 = .bool true := h12
    (try simp only [Act.put])
    simp only [setAll, List.setIfInBounds_toArray, List.set_cons_zero, List.set_cons_succ, h12]
    replace Bp := Lib.hid (Bp.out.touch hS (by simp))
    replace Bq := Lib.hid (Bq.out.touch hS (by simp))
    replace HT := Lib.hid (HT.out.trans hS)
    clear hS rgp rgq
    rename World => w2
    clear h12
    go_upto_region 3 with fail
    skip
    have rgp := Lib.hid (range_far Bp.out)
    have rgq := Lib.hid (range_far Bq.out)
    refine wp_region_list (wpList_flow (fun W => Touch [] w2 W) (look [(4, isB true), (5, isP (gg)), (13, EV (X)), (14, EV (invF (X))), (15, isB true), (16, isB true), (17, isB true), (18, isB true)]) [5] [13, 14, 15, 16, 17, 18, 4] [4] (by kernel_rfl) (by kernel_rfl) (by kernel_rfl) (by first | exact Touch.refl _ _ | assumption) ⟨rfl, trivial⟩ ?_ ?_)
    · refine FSteps.cons (FStep.plain rfl fun a w hS hE => OpTo.row _ (.tmp 5) rfl (gg) (hE 5 (by kernel_rfl)) (cellsZ p) _ (rgp.out w hS) Try.underlying24 rfl ilp.out ⟨dOf.of 13 rfl ⟨p, Rp.out, Fp.out, rfl⟩, hS⟩) ?_
      refine FSteps.cons (FStep.plain rfl fun a w hS hE => OpTo.call #[a.tmps.getD 13 undef] rfl Try.func33 (by kernel_rfl) (by kernel_rfl) (args1 ..) ((inv_v (hE 13 (by kernel_rfl)) w).mono fun _ _ h => Gives.to hS 14 rfl (fun _ h => h) h)) ?_
      refine FSteps.cons (FStep.plain rfl fun a w hS hE => OpTo.call #[a.tmps.getD 14 undef] rfl Try.func25 (by kernel_rfl) (by kernel_rfl) (args1 ..) ((zero_v (hE 14 (by kernel_rfl)) K15.out w).mono fun _ _ h => Gives.to hS 15 rfl (fun _ h => h) h)) ?_
      refine FSteps.cons (FStep.plain rfl fun a w hS hE => OpTo.move rfl ⟨dOf.of 16 rfl (hE 15 (by kernel_rfl)), hS⟩) ?_
      refine FSteps.cons (FStep.go 16 rfl rfl (fun _ h => h) fun a w hS hE => OpTo.call #[] rfl Try.func27 (by kernel_rfl) (by kernel_rfl) (args0 ..) ((fixed_v hfix w).mono fun _ _ h => Gives.to hS 17 rfl (fun _ h => h) h)) ?_
      refine FSteps.cons (FStep.plain rfl fun a w hS hE => OpTo.pick true rfl (hE 16 (by kernel_rfl)) ⟨dOf.of 18 rfl (hE 17 (by kernel_rfl)), hS⟩) ?_
      refine FSteps.cons (FStep.plain rfl fun a w hS hE => OpTo.assign rfl ⟨dOf.of 4 rfl (hE 18 (by kernel_rfl)), hS⟩) ?_
      exact FSteps.nil
    intro f wx hS hF
    obtain ⟨h4, -⟩ := hF
    replace h4 : f 4 = .bool true := h4
    simp only [setAll, List.setIfInBounds_toArray, List.set_cons_zero, List.set_cons_succ, h4]
    replace HT := Lib.hid (HT.out.trans hS)
    clear hS
    go_wp2_with fail
    go_ret
    exact ⟨rfl, HT.out⟩

  · skip
    have K12 := Lib.hid (show decide (X = 0) = false from decide_eq_false (hx0))
    have K24 := Lib.hid (show decide (mulF X (invF X) = 1) = true from decide_eq_true (mulF_invF lX hx0))
    have K30 := Lib.hid (show decide (invF (invF X) = X) = true from decide_eq_true (invF_invF lX hx0))
    have K42 := Lib.hid (show decide (invF (mulF X Y) = mulF (invF X) (invF Y)) = true from decide_eq_true (invF_mulF X Y))
    clear lX lY hx0
    have HT := Lib.hid (Touch.refl [] w)
    go_enter Try.func7, Try.ntmps7
    go_wp2_with fail
    refine (cut_anyE a _).mono ?_
    rintro e wp ⟨p, hp, hfp, rfl, ht⟩
    have Rp := Lib.hid hp
    have Fp := Lib.hid (show fe p = X by rw [hfp, HX.out])
    replace HT := Lib.hid (HT.out.trans ht)
    clear hp hfp ht
    go_wp2_with fail
    refine (cut_anyE b _).mono ?_
    rintro e wq ⟨q, hq, hfq, rfl, ht⟩
    have Rq := Lib.hid hq
    have Fq := Lib.hid (show fe q = Y by rw [hfq, HY.out])
    replace HT := Lib.hid (HT.out.trans ht)
    clear hq hfq ht
    go_upto_region 2 with (first | (refine wpList_storeE rfl (.tmp 5) (.tmp 8) rfl (wq.heap.size) rfl p rfl 24 _ Rp.out.len rfl (z2_0 wq) ?_) | (refine wpList_storeE rfl (.tmp 6) (.tmp 10) rfl (wq.heap.size + 1) rfl q rfl 24 _ Rq.out.len rfl (Blk.frow (z2_1 wq) (by omega) _) ?_))
    obtain ⟨bp, bq, bt⟩ := boxed2 wq p q
    obtain ⟨w1, hw1⟩ : ∃ w1, w1 = ((((wq.alloc (.cells #[.int .i64 0, .int .i64 0, .int .i64 0, .int .i64 0, .int .i64 0, .int .i64 0, .int .i64 0, .int .i64 0, .int .i64 0, .int .i64 0, .int .i64 0, .int .i64 0, .int .i64 0, .int .i64 0, .int .i64 0, .int .i64 0] 24)).alloc (.cells #[.int .i64 0, .int .i64 0, .int .i64 0, .int .i64 0, .int .i64 0, .int .i64 0, .int .i64 0, .int .i64 0, .int .i64 0, .int .i64 0, .int .i64 0, .int .i64 0, .int .i64 0, .int .i64 0, .int .i64 0, .int .i64 0] 24)).setRow (wq.heap.size) (cellsZ p).toArray).setRow (wq.heap.size + 1) (cellsZ q).toArray) := ⟨_, rfl⟩
    obtain ⟨gg, hg⟩ : ∃ gg, gg = wq.heap.size := ⟨_, rfl⟩
    rw [← hw1, ← hg] at bp bq
    rw [← hw1] at bt ⊢
    rw [← hg]
    replace HT := Lib.hid (HT.out.trans bt)
    have Bp := Lib.hid bp
    have Bq := Lib.hid bq
    clear bp bq bt hw1 hg
    have ilp := Lib.hid (infoL Rp.out)
    have ilq := Lib.hid (infoL Rq.out)
    have rgp := Lib.hid (range_far Bp.out)
    have rgq := Lib.hid (range_far Bq.out)
    refine wp_region_list (wpList_flow (fun W => Touch [] w1 W) (look [(5, isP (gg)), (11, EV (X)), (12, isB false)]) [5] [11, 12] [12] (by kernel_rfl) (by kernel_rfl) (by kernel_rfl) (by first | exact Touch.refl _ _ | assumption) ⟨rfl, trivial⟩ ?_ ?_)
    · refine FSteps.cons (FStep.plain rfl fun a w hS hE => OpTo.row _ (.tmp 5) rfl (gg) (hE 5 (by kernel_rfl)) (cellsZ p) _ (rgp.out w hS) Try.underlying24 rfl ilp.out ⟨dOf.of 11 rfl ⟨p, Rp.out, Fp.out, rfl⟩, hS⟩) ?_
      refine FSteps.cons (FStep.plain rfl fun a w hS hE => OpTo.call #[a.tmps.getD 11 undef] rfl Try.func25 (by kernel_rfl) (by kernel_rfl) (args1 ..) ((zero_v (hE 11 (by kernel_rfl)) K12.out w).mono fun _ _ h => Gives.to hS 12 rfl (fun _ h => h) h)) ?_
      exact FSteps.nil
    intro f wx hS hF
    obtain ⟨h12, -⟩ := hF
    replace h12 : f 12 = .bool false := h12
    (try simp only [Act.put])
    simp only [setAll, List.setIfInBounds_toArray, List.set_cons_zero, List.set_cons_succ, h12]
    replace Bp := Lib.hid (Bp.out.touch hS (by simp))
    replace Bq := Lib.hid (Bq.out.touch hS (by simp))
    replace HT := Lib.hid (HT.out.trans hS)
    clear hS rgp rgq
    rename World => w2
    clear h12
    go_upto_region 4 with fail
    skip
    have rgp := Lib.hid (range_far Bp.out)
    have rgq := Lib.hid (range_far Bq.out)
    refine wp_region_flow (by kernel_rfl) (fun W => Touch [] w2 W) (look [(4, isB true), (5, isP (gg)), (6, isP (gg + 1)), (19, EV (X)), (20, EV (X)), (21, EV (invF (X))), (22, EV (mulF (X) (invF (X)))), (23, EV (1)), (24, isB true), (25, isB true), (26, EV (X)), (27, EV (invF (X))), (28, EV (invF (invF (X)))), (29, EV (X)), (30, isB true), (31, isB true), (32, isB true), (33, EV (X)), (34, EV (Y)), (35, EV (mulF (X) (Y))), (36, EV (invF (mulF (X) (Y)))), (37, EV (X)), (38, EV (invF (X))), (39, EV (Y)), (40, EV (invF (Y))), (41, EV (mulF (invF (X)) (invF (Y)))), (42, isB true), (43, isB true), (44, isB true), (45, isB true), (46, isB true)]) [5, 6] [19, 20, 21, 22, 23, 24, 25, 26, 27, 28, 29, 30, 31, 32, 33, 34, 35, 36, 37, 38, 39, 40, 41, 42, 43, 44, 45, 46, 4] [4] (by kernel_rfl) (by kernel_rfl) (by kernel_rfl) (by kernel_rfl) (by first | exact (Touch.refl _ _).drew | assumption) ⟨rfl, rfl, trivial⟩ ?_ ?_
    · refine FSteps.cons (FStep.plain rfl fun a w hS hE => OpTo.row _ (.tmp 5) rfl (gg) (hE 5 (by kernel_rfl)) (cellsZ p) _ (rgp.out w hS) Try.underlying24 rfl ilp.out ⟨dOf.of 19 rfl ⟨p, Rp.out, Fp.out, rfl⟩, hS⟩) ?_
      refine FSteps.cons (FStep.plain rfl fun a w hS hE => OpTo.row _ (.tmp 5) rfl (gg) (hE 5 (by kernel_rfl)) (cellsZ p) _ (rgp.out w hS) Try.underlying24 rfl ilp.out ⟨dOf.of 20 rfl ⟨p, Rp.out, Fp.out, rfl⟩, hS⟩) ?_
      refine FSteps.cons (FStep.plain rfl fun a w hS hE => OpTo.call #[a.tmps.getD 20 undef] rfl Try.func33 (by kernel_rfl) (by kernel_rfl) (args1 ..) ((inv_v (hE 20 (by kernel_rfl)) w).mono fun _ _ h => Gives.to hS 21 rfl (fun _ h => h) h)) ?_
      refine FSteps.cons (FStep.plain rfl fun a w hS hE => OpTo.call #[a.tmps.getD 19 undef, a.tmps.getD 21 undef] rfl Try.func18 (by kernel_rfl) (by kernel_rfl) (args2 ..) ((mul_v (hE 19 (by kernel_rfl)) (hE 21 (by kernel_rfl)) w).mono fun _ _ h => Gives.to hS 22 rfl (fun _ h => h) h)) ?_
      refine FSteps.cons (FStep.plain rfl fun a w hS hE => OpTo.call #[.int .u64 1] rfl Try.func30 (by kernel_rfl) (by kernel_rfl) (args1 ..) ((num_v 1 (by omega) w).mono fun _ _ h => Gives.to hS 23 rfl (fun _ h => h) h)) ?_
      refine FSteps.cons (FStep.plain rfl fun a w hS hE => OpTo.call #[a.tmps.getD 22 undef, a.tmps.getD 23 undef] rfl Try.func22 (by kernel_rfl) (by kernel_rfl) (args2 ..) ((same_v (hE 22 (by kernel_rfl)) (hE 23 (by kernel_rfl)) K24.out w).mono fun _ _ h => Gives.to hS 24 rfl (fun _ h => h) h)) ?_
      refine FSteps.cons (FStep.plain rfl fun a w hS hE => OpTo.move rfl ⟨dOf.of 25 rfl (hE 24 (by kernel_rfl)), hS⟩) ?_
      refine FSteps.cons (FStep.go 25 rfl rfl (fun _ h => h) fun a w hS hE => OpTo.row _ (.tmp 5) rfl (gg) (hE 5 (by kernel_rfl)) (cellsZ p) _ (rgp.out w hS) Try.underlying24 rfl ilp.out ⟨dOf.of 26 rfl ⟨p, Rp.out, Fp.out, rfl⟩, hS⟩) ?_
      refine FSteps.cons (FStep.go 25 rfl rfl (fun _ h => h) fun a w hS hE => OpTo.call #[a.tmps.getD 26 undef] rfl Try.func33 (by kernel_rfl) (by kernel_rfl) (args1 ..) ((inv_v (hE 26 (by kernel_rfl)) w).mono fun _ _ h => Gives.to hS 27 rfl (fun _ h => h) h)) ?_
      refine FSteps.cons (FStep.go 25 rfl rfl (fun _ h => h) fun a w hS hE => OpTo.call #[a.tmps.getD 27 undef] rfl Try.func33 (by kernel_rfl) (by kernel_rfl) (args1 ..) ((inv_v (hE 27 (by kernel_rfl)) w).mono fun _ _ h => Gives.to hS 28 rfl (fun _ h => h) h)) ?_
      refine FSteps.cons (FStep.go 25 rfl rfl (fun _ h => h) fun a w hS hE => OpTo.row _ (.tmp 5) rfl (gg) (hE 5 (by kernel_rfl)) (cellsZ p) _ (rgp.out w hS) Try.underlying24 rfl ilp.out ⟨dOf.of 29 rfl ⟨p, Rp.out, Fp.out, rfl⟩, hS⟩) ?_
      refine FSteps.cons (FStep.go 25 rfl rfl (fun _ h => h) fun a w hS hE => OpTo.call #[a.tmps.getD 28 undef, a.tmps.getD 29 undef] rfl Try.func22 (by kernel_rfl) (by kernel_rfl) (args2 ..) ((same_v (hE 28 (by kernel_rfl)) (hE 29 (by kernel_rfl)) K30.out w).mono fun _ _ h => Gives.to hS 30 rfl (fun _ h => h) h)) ?_
      refine FSteps.cons (FStep.plain rfl fun a w hS hE => OpTo.pick true rfl (hE 25 (by kernel_rfl)) ⟨dOf.of 31 rfl (hE 30 (by kernel_rfl)), hS⟩) ?_
      refine FSteps.cons (FStep.plain rfl fun a w hS hE => OpTo.move rfl ⟨dOf.of 32 rfl (hE 31 (by kernel_rfl)), hS⟩) ?_
      refine FSteps.cons (FStep.go 32 rfl rfl (fun _ h => h) fun a w hS hE => OpTo.row _ (.tmp 5) rfl (gg) (hE 5 (by kernel_rfl)) (cellsZ p) _ (rgp.out w hS) Try.underlying24 rfl ilp.out ⟨dOf.of 33 rfl ⟨p, Rp.out, Fp.out, rfl⟩, hS⟩) ?_
      refine FSteps.cons (FStep.go 32 rfl rfl (fun _ h => h) fun a w hS hE => OpTo.row _ (.tmp 6) rfl (gg + 1) (hE 6 (by kernel_rfl)) (cellsZ q) _ (rgq.out w hS) Try.underlying24 rfl ilq.out ⟨dOf.of 34 rfl ⟨q, Rq.out, Fq.out, rfl⟩, hS⟩) ?_
      refine FSteps.cons (FStep.go 32 rfl rfl (fun _ h => h) fun a w hS hE => OpTo.call #[a.tmps.getD 33 undef, a.tmps.getD 34 undef] rfl Try.func18 (by kernel_rfl) (by kernel_rfl) (args2 ..) ((mul_v (hE 33 (by kernel_rfl)) (hE 34 (by kernel_rfl)) w).mono fun _ _ h => Gives.to hS 35 rfl (fun _ h => h) h)) ?_
      refine FSteps.cons (FStep.go 32 rfl rfl (fun _ h => h) fun a w hS hE => OpTo.call #[a.tmps.getD 35 undef] rfl Try.func33 (by kernel_rfl) (by kernel_rfl) (args1 ..) ((inv_v (hE 35 (by kernel_rfl)) w).mono fun _ _ h => Gives.to hS 36 rfl (fun _ h => h) h)) ?_
      refine FSteps.cons (FStep.go 32 rfl rfl (fun _ h => h) fun a w hS hE => OpTo.row _ (.tmp 5) rfl (gg) (hE 5 (by kernel_rfl)) (cellsZ p) _ (rgp.out w hS) Try.underlying24 rfl ilp.out ⟨dOf.of 37 rfl ⟨p, Rp.out, Fp.out, rfl⟩, hS⟩) ?_
      refine FSteps.cons (FStep.go 32 rfl rfl (fun _ h => h) fun a w hS hE => OpTo.call #[a.tmps.getD 37 undef] rfl Try.func33 (by kernel_rfl) (by kernel_rfl) (args1 ..) ((inv_v (hE 37 (by kernel_rfl)) w).mono fun _ _ h => Gives.to hS 38 rfl (fun _ h => h) h)) ?_
      refine FSteps.cons (FStep.go 32 rfl rfl (fun _ h => h) fun a w hS hE => OpTo.row _ (.tmp 6) rfl (gg + 1) (hE 6 (by kernel_rfl)) (cellsZ q) _ (rgq.out w hS) Try.underlying24 rfl ilq.out ⟨dOf.of 39 rfl ⟨q, Rq.out, Fq.out, rfl⟩, hS⟩) ?_
      refine FSteps.cons (FStep.go 32 rfl rfl (fun _ h => h) fun a w hS hE => OpTo.call #[a.tmps.getD 39 undef] rfl Try.func33 (by kernel_rfl) (by kernel_rfl) (args1 ..) ((inv_v (hE 39 (by kernel_rfl)) w).mono fun _ _ h => Gives.to hS 40 rfl (fun _ h => h) h)) ?_
      refine FSteps.cons (FStep.go 32 rfl rfl (fun _ h => h) fun a w hS hE => OpTo.call #[a.tmps.getD 38 undef, a.tmps.getD 40 undef] rfl Try.func18 (by kernel_rfl) (by kernel_rfl) (args2 ..) ((mul_v (hE 38 (by kernel_rfl)) (hE 40 (by kernel_rfl)) w).mono fun _ _ h => Gives.to hS 41 rfl (fun _ h => h) h)) ?_
      refine FSteps.cons (FStep.go 32 rfl rfl (fun _ h => h) fun a w hS hE => OpTo.call #[a.tmps.getD 36 undef, a.tmps.getD 41 undef] rfl Try.func22 (by kernel_rfl) (by kernel_rfl) (args2 ..) ((same_v (hE 36 (by kernel_rfl)) (hE 41 (by kernel_rfl)) K42.out w).mono fun _ _ h => Gives.to hS 42 rfl (fun _ h => h) h)) ?_
      refine FSteps.cons (FStep.plain rfl fun a w hS hE => OpTo.pick true rfl (hE 32 (by kernel_rfl)) ⟨dOf.of 43 rfl (hE 42 (by kernel_rfl)), hS⟩) ?_
      refine FSteps.cons (FStep.plain rfl fun a w hS hE => OpTo.move rfl ⟨dOf.of 44 rfl (hE 43 (by kernel_rfl)), hS⟩) ?_
      refine FSteps.cons (FStep.go 44 rfl rfl (fun _ h => h) fun a w hS hE => OpTo.call #[] rfl Try.func27 (by kernel_rfl) (by kernel_rfl) (args0 ..) ((fixed_v hfix w).mono fun _ _ h => Gives.to hS 45 rfl (fun _ h => h) h)) ?_
      refine FSteps.cons (FStep.plain rfl fun a w hS hE => OpTo.pick true rfl (hE 44 (by kernel_rfl)) ⟨dOf.of 46 rfl (hE 45 (by kernel_rfl)), hS⟩) ?_
      refine FSteps.cons (FStep.plain rfl fun a w hS hE => OpTo.assign rfl ⟨dOf.of 4 rfl (hE 46 (by kernel_rfl)), hS⟩) ?_
      exact FSteps.nil
    intro f wx hS hF
    obtain ⟨h4, -⟩ := hF
    replace h4 : f 4 = .bool true := h4
    simp only [setAll, List.setIfInBounds_toArray, List.set_cons_zero, List.set_cons_succ, h4]
    replace HT := Lib.hid (HT.out.trans hS)
    clear hS
    go_wp2_with fail
    go_ret
    exact ⟨rfl, HT.out⟩

end Go.Proofs.Ytbchjefgfghjlaa
