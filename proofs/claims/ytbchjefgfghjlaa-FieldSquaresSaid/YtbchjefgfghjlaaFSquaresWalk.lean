/- syngraphlaw04.FieldSquares: the walk. -/
import Derived.Test.YtbchjefgfghjlaaElem
import Derived.Test.YtbchjefgfghjlaaFLaws
import Derived.Test.YtbchjefgfghjlaaFixed04
import Derived.Test.YtbchjefgfghjlaaSeqFlow
import Derived.Test.YtbchjefgfghjlaaFField
namespace Go.Proofs.Ytbchjefgfghjlaa
open Go.RowKit
/-- A root, where it is known whether there is one. -/
theorem root_b {l : List Int} (hl : Red l) {b : Bool} (hb : isN (fe l) = b) (w : World) : Calls Try.prog 31 #[elV l] w fun e w' => ∃ r, Red r ∧ fe r = rootN (fe l) ∧ e = .returned (.tuple #[elV r, .bool b]) ∧ Touch [] w w' := by
  subst hb
  exact root_any l hl w
set_option maxRecDepth 100000 in
set_option maxHeartbeats 4000000 in
theorem fsq_0t (hfix : FixedOk) (a b : ByteArray) (w : World) (X Y : Nat) (HX : Hid (cutN a = X)) (HY : Hid (cutN b = Y)) (lX : X < PP) (_lY : Y < PP) (hR : rootN (mulF X X) = X) (h0 : X = 0) (hN : isN Y = true) : Calls Try.prog 8 #[.string a, .string b] w fun e w' => e = .returned (.bool true) ∧ Touch [] w w' := by
  have hq : isN (mulF X X) = true := sq_isN lX rfl
  have NQ := Lib.hid hq
  have NM := Lib.hid (neg_isN X)
  have NY := Lib.hid hN
  have K38 := Lib.hid (show decide (rootN (mulF X X) % 2 = 1) = false from decide_eq_false (root_even _))
  have K45 := Lib.hid (show decide (mulF (rootN (mulF X X)) (rootN (mulF X X)) = mulF X X) = true from decide_eq_true (root_sq hq))
  have K51 := Lib.hid (show decide (rootN (mulF X X) = X) = true from decide_eq_true (hR))
  have K71 := Lib.hid (show decide (mulF (rootN (negF (mulF X X))) (rootN (negF (mulF X X))) = negF (mulF X X)) = true from decide_eq_true (root_sq (neg_isN X)))
  have K90 := Lib.hid (show decide (X = 0) = true from decide_eq_true (h0))
  have NB := Lib.hid (show isN (mulF Y (mulF X X)) = true by rw [h0, mulF_zero, mulF_zero]; exact zero_isN)
  have K109 := Lib.hid (show decide (mulF (rootN Y) (rootN Y) = Y) = true from decide_eq_true (root_sq hN))
  have K112 := Lib.hid (show decide (rootN Y % 2 = 1) = false from decide_eq_false (root_even _))
  clear hq hR h0 hN lX _lY
  have HT := Lib.hid (Touch.refl [] w)
  go_enter Try.func8, Try.ntmps8
  go_wp2_with fail
  refine (cut_anyE a _).mono ?_
  rintro e wp1 ⟨p, hp, hfp, rfl, ht⟩
  have Rp := Lib.hid hp
  have Fp := Lib.hid (show fe p = X by rw [hfp, HX.out])
  replace HT := Lib.hid (HT.out.trans ht)
  clear hp hfp ht
  go_wp2_with fail
  refine (cut_anyE b _).mono ?_
  rintro e wq2 ⟨q, hq, hfq, rfl, ht⟩
  have Rq := Lib.hid hq
  have Fq := Lib.hid (show fe q = Y by rw [hfq, HY.out])
  replace HT := Lib.hid (HT.out.trans ht)
  clear hq hfq ht
  go_upto_region 2 with (first | (refine wpList_storeE rfl (.tmp 5) (.tmp 17) rfl (wq2.heap.size) rfl p rfl 24 _ Rp.out.len rfl (z2_0 wq2) ?_) | (refine wpList_storeE rfl (.tmp 6) (.tmp 19) rfl (wq2.heap.size + 1) rfl q rfl 24 _ Rq.out.len rfl (Blk.frow (z2_1 wq2) (by omega) _) ?_))
  obtain ⟨bp, bq, bt⟩ := boxed2 wq2 p q
  obtain ⟨w3, hw3⟩ : ∃ w3, w3 = ((((wq2.alloc (.cells #[.int .i64 0, .int .i64 0, .int .i64 0, .int .i64 0, .int .i64 0, .int .i64 0, .int .i64 0, .int .i64 0, .int .i64 0, .int .i64 0, .int .i64 0, .int .i64 0, .int .i64 0, .int .i64 0, .int .i64 0, .int .i64 0] 24)).alloc (.cells #[.int .i64 0, .int .i64 0, .int .i64 0, .int .i64 0, .int .i64 0, .int .i64 0, .int .i64 0, .int .i64 0, .int .i64 0, .int .i64 0, .int .i64 0, .int .i64 0, .int .i64 0, .int .i64 0, .int .i64 0, .int .i64 0] 24)).setRow (wq2.heap.size) (cellsZ p).toArray).setRow (wq2.heap.size + 1) (cellsZ q).toArray) := ⟨_, rfl⟩
  obtain ⟨g3, hg⟩ : ∃ g3, g3 = wq2.heap.size := ⟨_, rfl⟩
  rw [← hw3, ← hg] at bp bq
  rw [← hw3] at bt ⊢
  rw [← hg]
  replace HT := Lib.hid (HT.out.trans bt)
  have Bp := Lib.hid bp
  have ilp := Lib.hid (infoL Rp.out)
  have Bq := Lib.hid bq
  have ilq := Lib.hid (infoL Rq.out)
  clear bp bq bt hw3 hg
  go_wp2_with (first | (refine wpList_loadE rfl (.tmp 5) rfl (g3) rfl _ p Rp.out.len Bp.out ?_) | (refine wpList_loadE rfl (.tmp 6) rfl (g3 + 1) rfl _ q Rq.out.len Bq.out ?_))
  refine (mul_any p p Rp.out Rp.out _).mono ?_
  rintro e wm4 ⟨m, hm, hfm, rfl, ht⟩
  have Rm := Lib.hid hm
  have Fm := Lib.hid (show fe m = mulF X X by rw [hfm, Fp.out])
  replace Bp := Lib.hid (Bp.out.touch ht (by simp))
  replace Bq := Lib.hid (Bq.out.touch ht (by simp))
  replace HT := Lib.hid (HT.out.trans ht)
  clear hm hfm ht
  go_upto_region 3 with (first | (refine wpList_storeE rfl (.tmp 7) (.tmp 22) rfl (wm4.heap.size) rfl m rfl 24 _ Rm.out.len rfl (z1_0 wm4) ?_))
  obtain ⟨bm, bt⟩ := boxed1 wm4 m
  obtain ⟨w5, hw5⟩ : ∃ w5, w5 = ((wm4.alloc (.cells #[.int .i64 0, .int .i64 0, .int .i64 0, .int .i64 0, .int .i64 0, .int .i64 0, .int .i64 0, .int .i64 0, .int .i64 0, .int .i64 0, .int .i64 0, .int .i64 0, .int .i64 0, .int .i64 0, .int .i64 0, .int .i64 0] 24)).setRow (wm4.heap.size) (cellsZ m).toArray) := ⟨_, rfl⟩
  obtain ⟨g5, hg⟩ : ∃ g5, g5 = wm4.heap.size := ⟨_, rfl⟩
  rw [← hw5, ← hg] at bm
  rw [← hw5] at bt ⊢
  rw [← hg]
  replace Bp := Lib.hid (Bp.out.touch bt (by simp))
  replace Bq := Lib.hid (Bq.out.touch bt (by simp))
  replace HT := Lib.hid (HT.out.trans bt)
  have Bm := Lib.hid bm
  have ilm := Lib.hid (infoL Rm.out)
  clear bm bt hw5 hg
  go_wp2_with (first | (refine wpList_loadE rfl (.tmp 5) rfl (g3) rfl _ p Rp.out.len Bp.out ?_) | (refine wpList_loadE rfl (.tmp 6) rfl (g3 + 1) rfl _ q Rq.out.len Bq.out ?_) | (refine wpList_loadE rfl (.tmp 7) rfl (g5) rfl _ m Rm.out.len Bm.out ?_))
  refine (root_b (b := true) Rm.out (by rw [Fm.out]; exact NQ.out) _).mono ?_
  rintro e wr6 ⟨r, hr, hfr, rfl, ht⟩
  have Rr := Lib.hid hr
  have Fr := Lib.hid (show fe r = rootN (mulF X X) by rw [hfr, Fm.out])
  replace Bp := Lib.hid (Bp.out.touch ht (by simp))
  replace Bq := Lib.hid (Bq.out.touch ht (by simp))
  replace Bm := Lib.hid (Bm.out.touch ht (by simp))
  replace HT := Lib.hid (HT.out.trans ht)
  clear hr hfr ht
  go_upto_region 4 with (first | (refine wpList_storeE rfl (.tmp 8) (.tmp 26) rfl (wr6.heap.size) rfl r rfl 24 _ Rr.out.len rfl (z1_0 wr6) ?_))
  obtain ⟨br, bt⟩ := boxed1 wr6 r
  obtain ⟨w7, hw7⟩ : ∃ w7, w7 = ((wr6.alloc (.cells #[.int .i64 0, .int .i64 0, .int .i64 0, .int .i64 0, .int .i64 0, .int .i64 0, .int .i64 0, .int .i64 0, .int .i64 0, .int .i64 0, .int .i64 0, .int .i64 0, .int .i64 0, .int .i64 0, .int .i64 0, .int .i64 0] 24)).setRow (wr6.heap.size) (cellsZ r).toArray) := ⟨_, rfl⟩
  obtain ⟨g7, hg⟩ : ∃ g7, g7 = wr6.heap.size := ⟨_, rfl⟩
  rw [← hw7, ← hg] at br
  rw [← hw7] at bt ⊢
  rw [← hg]
  replace Bp := Lib.hid (Bp.out.touch bt (by simp))
  replace Bq := Lib.hid (Bq.out.touch bt (by simp))
  replace Bm := Lib.hid (Bm.out.touch bt (by simp))
  replace HT := Lib.hid (HT.out.trans bt)
  have Br := Lib.hid br
  have ilr := Lib.hid (infoL Rr.out)
  clear br bt hw7 hg
  go_wp2_with (first | (refine wpList_loadE rfl (.tmp 5) rfl (g3) rfl _ p Rp.out.len Bp.out ?_) | (refine wpList_loadE rfl (.tmp 6) rfl (g3 + 1) rfl _ q Rq.out.len Bq.out ?_) | (refine wpList_loadE rfl (.tmp 7) rfl (g5) rfl _ m Rm.out.len Bm.out ?_) | (refine wpList_loadE rfl (.tmp 8) rfl (g7) rfl _ r Rr.out.len Br.out ?_))
  refine (neg_anyE m Rm.out _).mono ?_
  rintro e wv8 ⟨v, hv, hfv, rfl, ht⟩
  have Rv := Lib.hid hv
  have Fv := Lib.hid (show fe v = negF (mulF X X) by rw [hfv, Fm.out])
  replace Bp := Lib.hid (Bp.out.touch ht (by simp))
  replace Bq := Lib.hid (Bq.out.touch ht (by simp))
  replace Bm := Lib.hid (Bm.out.touch ht (by simp))
  replace Br := Lib.hid (Br.out.touch ht (by simp))
  replace HT := Lib.hid (HT.out.trans ht)
  clear hv hfv ht
  go_wp2_with (first | (refine wpList_loadE rfl (.tmp 5) rfl (g3) rfl _ p Rp.out.len Bp.out ?_) | (refine wpList_loadE rfl (.tmp 6) rfl (g3 + 1) rfl _ q Rq.out.len Bq.out ?_) | (refine wpList_loadE rfl (.tmp 7) rfl (g5) rfl _ m Rm.out.len Bm.out ?_) | (refine wpList_loadE rfl (.tmp 8) rfl (g7) rfl _ r Rr.out.len Br.out ?_))
  refine (root_b (b := true) Rv.out (by rw [Fv.out]; exact NM.out) _).mono ?_
  rintro e wn9 ⟨n, hn, hfn, rfl, ht⟩
  have Rn := Lib.hid hn
  have Fn := Lib.hid (show fe n = rootN (negF (mulF X X)) by rw [hfn, Fv.out])
  replace Bp := Lib.hid (Bp.out.touch ht (by simp))
  replace Bq := Lib.hid (Bq.out.touch ht (by simp))
  replace Bm := Lib.hid (Bm.out.touch ht (by simp))
  replace Br := Lib.hid (Br.out.touch ht (by simp))
  replace HT := Lib.hid (HT.out.trans ht)
  clear hn hfn ht
  go_upto_region 5 with (first | (refine wpList_storeE rfl (.tmp 10) (.tmp 32) rfl (wn9.heap.size) rfl n rfl 24 _ Rn.out.len rfl (z1_0 wn9) ?_))
  obtain ⟨bn, bt⟩ := boxed1 wn9 n
  obtain ⟨w10, hw10⟩ : ∃ w10, w10 = ((wn9.alloc (.cells #[.int .i64 0, .int .i64 0, .int .i64 0, .int .i64 0, .int .i64 0, .int .i64 0, .int .i64 0, .int .i64 0, .int .i64 0, .int .i64 0, .int .i64 0, .int .i64 0, .int .i64 0, .int .i64 0, .int .i64 0, .int .i64 0] 24)).setRow (wn9.heap.size) (cellsZ n).toArray) := ⟨_, rfl⟩
  obtain ⟨g10, hg⟩ : ∃ g10, g10 = wn9.heap.size := ⟨_, rfl⟩
  rw [← hw10, ← hg] at bn
  rw [← hw10] at bt ⊢
  rw [← hg]
  replace Bp := Lib.hid (Bp.out.touch bt (by simp))
  replace Bq := Lib.hid (Bq.out.touch bt (by simp))
  replace Bm := Lib.hid (Bm.out.touch bt (by simp))
  replace Br := Lib.hid (Br.out.touch bt (by simp))
  replace HT := Lib.hid (HT.out.trans bt)
  have Bn := Lib.hid bn
  have iln := Lib.hid (infoL Rn.out)
  clear bn bt hw10 hg
  have rgp := Lib.hid (range_far Bp.out)
  have rgm := Lib.hid (range_far Bm.out)
  have rgr := Lib.hid (range_far Br.out)
  have rgn := Lib.hid (range_far Bn.out)
  refine wp_region_flow (by kernel_rfl) (fun W => Touch [] w10 W) (look [(5, isP (g3)), (7, isP (g5)), (8, isP (g7)), (9, isB true), (10, isP (g10)), (11, isB true), (34, isB true), (35, isB false), (36, isB false), (37, EV (rootN (mulF X X))), (38, isB false), (39, isB false), (40, isB false), (41, EV (rootN (mulF X X))), (42, EV (rootN (mulF X X))), (43, EV (mulF (rootN (mulF X X)) (rootN (mulF X X)))), (44, EV (mulF X X)), (45, isB true), (46, isB false), (47, isB false), (48, isB false), (49, EV (rootN (mulF X X))), (50, EV (X)), (51, isB true), (52, isB false), (53, isB false), (54, isU), (55, isU), (56, isU), (57, isU), (58, isU), (59, isB false), (60, isB false), (61, isB false), (62, isB true), (63, isB false), (64, isB false), (65, isB false), (66, EV (rootN (negF (mulF X X)))), (67, EV (rootN (negF (mulF X X)))), (68, EV (mulF (rootN (negF (mulF X X))) (rootN (negF (mulF X X))))), (69, EV (mulF X X)), (70, EV (negF (mulF X X))), (71, isB true), (72, isB false), (73, isB false)]) [5, 7, 8, 9, 10, 11] [34, 35, 36, 37, 38, 39, 40, 41, 42, 43, 44, 45, 46, 47, 48, 49, 50, 51, 52, 53, 54, 55, 56, 57, 58, 59, 60, 61, 62, 63, 64, 65, 66, 67, 68, 69, 70, 71, 72, 73] [73] (by kernel_rfl) (by kernel_rfl) (by kernel_rfl) (by kernel_rfl) (by first | exact (Touch.refl _ _).drew | assumption) ⟨rfl, rfl, rfl, rfl, rfl, rfl, trivial⟩ ?_ ?_
  · refine FSteps.cons (FStep.plain rfl fun a w hS hE => OpTo.move rfl ⟨dOf.of 34 rfl (hE 9 (by kernel_rfl)), hS⟩) ?_
    refine FSteps.cons (FStep.plain rfl fun a w hS hE => OpTo.not true rfl (hE 34 (by kernel_rfl)) ⟨dOf.of 35 rfl (Eq.refl (Value.bool false)), hS⟩) ?_
    refine FSteps.cons (FStep.plain rfl fun a w hS hE => OpTo.move rfl ⟨dOf.of 36 rfl (hE 35 (by kernel_rfl)), hS⟩) ?_
    refine FSteps.cons (FStep.go 36 rfl rfl (fun _ h => h) fun a w hS hE => OpTo.row _ (.tmp 8) rfl (g7) (hE 8 (by kernel_rfl)) (cellsZ r) _ (rgr.out w hS) Try.underlying24 rfl ilr.out ⟨dOf.of 37 rfl ⟨r, Rr.out, Fr.out, rfl⟩, hS⟩) ?_
    refine FSteps.cons (FStep.go 36 rfl rfl (fun _ h => h) fun a w hS hE => OpTo.call #[a.tmps.getD 37 undef] rfl Try.func23 (by kernel_rfl) (by kernel_rfl) (args1 ..) ((odd_v (hE 37 (by kernel_rfl)) K38.out w).mono fun _ _ h => Gives.to hS 38 rfl (fun _ h => h) h)) ?_
    refine FSteps.cons (FStep.plain rfl fun a w hS hE => OpTo.pick false rfl (hE 36 (by kernel_rfl)) ⟨dOf.of 39 rfl (hE 38 (by kernel_rfl)), hS⟩) ?_
    refine FSteps.cons (FStep.plain rfl fun a w hS hE => OpTo.move rfl ⟨dOf.of 40 rfl (hE 39 (by kernel_rfl)), hS⟩) ?_
    refine FSteps.cons (FStep.go 40 rfl rfl (fun _ h => h) fun a w hS hE => OpTo.row _ (.tmp 8) rfl (g7) (hE 8 (by kernel_rfl)) (cellsZ r) _ (rgr.out w hS) Try.underlying24 rfl ilr.out ⟨dOf.of 41 rfl ⟨r, Rr.out, Fr.out, rfl⟩, hS⟩) ?_
    refine FSteps.cons (FStep.go 40 rfl rfl (fun _ h => h) fun a w hS hE => OpTo.row _ (.tmp 8) rfl (g7) (hE 8 (by kernel_rfl)) (cellsZ r) _ (rgr.out w hS) Try.underlying24 rfl ilr.out ⟨dOf.of 42 rfl ⟨r, Rr.out, Fr.out, rfl⟩, hS⟩) ?_
    refine FSteps.cons (FStep.go 40 rfl rfl (fun _ h => h) fun a w hS hE => OpTo.call #[a.tmps.getD 41 undef, a.tmps.getD 42 undef] rfl Try.func18 (by kernel_rfl) (by kernel_rfl) (args2 ..) ((mul_v (hE 41 (by kernel_rfl)) (hE 42 (by kernel_rfl)) w).mono fun _ _ h => Gives.to hS 43 rfl (fun _ h => h) h)) ?_
    refine FSteps.cons (FStep.go 40 rfl rfl (fun _ h => h) fun a w hS hE => OpTo.row _ (.tmp 7) rfl (g5) (hE 7 (by kernel_rfl)) (cellsZ m) _ (rgm.out w hS) Try.underlying24 rfl ilm.out ⟨dOf.of 44 rfl ⟨m, Rm.out, Fm.out, rfl⟩, hS⟩) ?_
    refine FSteps.cons (FStep.go 40 rfl rfl (fun _ h => h) fun a w hS hE => OpTo.call #[a.tmps.getD 43 undef, a.tmps.getD 44 undef] rfl Try.func22 (by kernel_rfl) (by kernel_rfl) (args2 ..) ((same_v (hE 43 (by kernel_rfl)) (hE 44 (by kernel_rfl)) K45.out w).mono fun _ _ h => Gives.to hS 45 rfl (fun _ h => h) h)) ?_
    refine FSteps.cons (FStep.go 40 rfl rfl (fun _ h => h) fun a w hS hE => OpTo.not true rfl (hE 45 (by kernel_rfl)) ⟨dOf.of 46 rfl (Eq.refl (Value.bool false)), hS⟩) ?_
    refine FSteps.cons (FStep.plain rfl fun a w hS hE => OpTo.pick false rfl (hE 40 (by kernel_rfl)) ⟨dOf.of 47 rfl (hE 46 (by kernel_rfl)), hS⟩) ?_
    refine FSteps.cons (FStep.plain rfl fun a w hS hE => OpTo.move rfl ⟨dOf.of 48 rfl (hE 47 (by kernel_rfl)), hS⟩) ?_
    refine FSteps.cons (FStep.go 48 rfl rfl (fun _ h => h) fun a w hS hE => OpTo.row _ (.tmp 8) rfl (g7) (hE 8 (by kernel_rfl)) (cellsZ r) _ (rgr.out w hS) Try.underlying24 rfl ilr.out ⟨dOf.of 49 rfl ⟨r, Rr.out, Fr.out, rfl⟩, hS⟩) ?_
    refine FSteps.cons (FStep.go 48 rfl rfl (fun _ h => h) fun a w hS hE => OpTo.row _ (.tmp 5) rfl (g3) (hE 5 (by kernel_rfl)) (cellsZ p) _ (rgp.out w hS) Try.underlying24 rfl ilp.out ⟨dOf.of 50 rfl ⟨p, Rp.out, Fp.out, rfl⟩, hS⟩) ?_
    refine FSteps.cons (FStep.go 48 rfl rfl (fun _ h => h) fun a w hS hE => OpTo.call #[a.tmps.getD 49 undef, a.tmps.getD 50 undef] rfl Try.func22 (by kernel_rfl) (by kernel_rfl) (args2 ..) ((same_v (hE 49 (by kernel_rfl)) (hE 50 (by kernel_rfl)) K51.out w).mono fun _ _ h => Gives.to hS 51 rfl (fun _ h => h) h)) ?_
    refine FSteps.cons (FStep.go 48 rfl rfl (fun _ h => h) fun a w hS hE => OpTo.not true rfl (hE 51 (by kernel_rfl)) ⟨dOf.of 52 rfl (Eq.refl (Value.bool false)), hS⟩) ?_
    refine FSteps.cons (FStep.go 48 rfl rfl (fun _ h => h) fun a w hS hE => OpTo.move rfl ⟨dOf.of 53 rfl (hE 52 (by kernel_rfl)), hS⟩) ?_
    refine FSteps.cons (FStep.no 53 rfl rfl (fun _ h => h) (dOf.of 54 rfl rfl)) ?_
    refine FSteps.cons (FStep.no 53 rfl rfl (fun _ h => h) (dOf.of 55 rfl rfl)) ?_
    refine FSteps.cons (FStep.no 53 rfl rfl (fun _ h => h) (dOf.of 56 rfl rfl)) ?_
    refine FSteps.cons (FStep.no 53 rfl rfl (fun _ h => h) (dOf.of 57 rfl rfl)) ?_
    refine FSteps.cons (FStep.no 53 rfl rfl (fun _ h => h) (dOf.of 58 rfl rfl)) ?_
    refine FSteps.cons (FStep.go 48 rfl rfl (fun _ h => h) fun a w hS hE => OpTo.pick false rfl (hE 53 (by kernel_rfl)) ⟨dOf.of 59 rfl (Eq.refl (Value.bool false)), hS⟩) ?_
    refine FSteps.cons (FStep.plain rfl fun a w hS hE => OpTo.pick false rfl (hE 48 (by kernel_rfl)) ⟨dOf.of 60 rfl (hE 59 (by kernel_rfl)), hS⟩) ?_
    refine FSteps.cons (FStep.plain rfl fun a w hS hE => OpTo.move rfl ⟨dOf.of 61 rfl (hE 60 (by kernel_rfl)), hS⟩) ?_
    refine FSteps.cons (FStep.go 61 rfl rfl (fun _ h => h) fun a w hS hE => OpTo.move rfl ⟨dOf.of 62 rfl (hE 11 (by kernel_rfl)), hS⟩) ?_
    refine FSteps.cons (FStep.go 61 rfl rfl (fun _ h => h) fun a w hS hE => OpTo.not true rfl (hE 62 (by kernel_rfl)) ⟨dOf.of 63 rfl (Eq.refl (Value.bool false)), hS⟩) ?_
    refine FSteps.cons (FStep.plain rfl fun a w hS hE => OpTo.pick false rfl (hE 61 (by kernel_rfl)) ⟨dOf.of 64 rfl (hE 63 (by kernel_rfl)), hS⟩) ?_
    refine FSteps.cons (FStep.plain rfl fun a w hS hE => OpTo.move rfl ⟨dOf.of 65 rfl (hE 64 (by kernel_rfl)), hS⟩) ?_
    refine FSteps.cons (FStep.go 65 rfl rfl (fun _ h => h) fun a w hS hE => OpTo.row _ (.tmp 10) rfl (g10) (hE 10 (by kernel_rfl)) (cellsZ n) _ (rgn.out w hS) Try.underlying24 rfl iln.out ⟨dOf.of 66 rfl ⟨n, Rn.out, Fn.out, rfl⟩, hS⟩) ?_
    refine FSteps.cons (FStep.go 65 rfl rfl (fun _ h => h) fun a w hS hE => OpTo.row _ (.tmp 10) rfl (g10) (hE 10 (by kernel_rfl)) (cellsZ n) _ (rgn.out w hS) Try.underlying24 rfl iln.out ⟨dOf.of 67 rfl ⟨n, Rn.out, Fn.out, rfl⟩, hS⟩) ?_
    refine FSteps.cons (FStep.go 65 rfl rfl (fun _ h => h) fun a w hS hE => OpTo.call #[a.tmps.getD 66 undef, a.tmps.getD 67 undef] rfl Try.func18 (by kernel_rfl) (by kernel_rfl) (args2 ..) ((mul_v (hE 66 (by kernel_rfl)) (hE 67 (by kernel_rfl)) w).mono fun _ _ h => Gives.to hS 68 rfl (fun _ h => h) h)) ?_
    refine FSteps.cons (FStep.go 65 rfl rfl (fun _ h => h) fun a w hS hE => OpTo.row _ (.tmp 7) rfl (g5) (hE 7 (by kernel_rfl)) (cellsZ m) _ (rgm.out w hS) Try.underlying24 rfl ilm.out ⟨dOf.of 69 rfl ⟨m, Rm.out, Fm.out, rfl⟩, hS⟩) ?_
    refine FSteps.cons (FStep.go 65 rfl rfl (fun _ h => h) fun a w hS hE => OpTo.call #[a.tmps.getD 69 undef] rfl Try.func20 (by kernel_rfl) (by kernel_rfl) (args1 ..) ((neg_v (hE 69 (by kernel_rfl)) w).mono fun _ _ h => Gives.to hS 70 rfl (fun _ h => h) h)) ?_
    refine FSteps.cons (FStep.go 65 rfl rfl (fun _ h => h) fun a w hS hE => OpTo.call #[a.tmps.getD 68 undef, a.tmps.getD 70 undef] rfl Try.func22 (by kernel_rfl) (by kernel_rfl) (args2 ..) ((same_v (hE 68 (by kernel_rfl)) (hE 70 (by kernel_rfl)) K71.out w).mono fun _ _ h => Gives.to hS 71 rfl (fun _ h => h) h)) ?_
    refine FSteps.cons (FStep.go 65 rfl rfl (fun _ h => h) fun a w hS hE => OpTo.not true rfl (hE 71 (by kernel_rfl)) ⟨dOf.of 72 rfl (Eq.refl (Value.bool false)), hS⟩) ?_
    refine FSteps.cons (FStep.plain rfl fun a w hS hE => OpTo.pick false rfl (hE 65 (by kernel_rfl)) ⟨dOf.of 73 rfl (hE 72 (by kernel_rfl)), hS⟩) ?_
    exact FSteps.nil
  intro f wx hS hF
  obtain ⟨h73, -⟩ := hF
  replace h73 : f 73 = .bool false := h73
  (try unfold Act.put)
  simp only [setAll, List.setIfInBounds_toArray, List.set_cons_zero, List.set_cons_succ, h73]
  replace Bp := Lib.hid (Bp.out.touch hS (by simp))
  replace Bq := Lib.hid (Bq.out.touch hS (by simp))
  replace Bm := Lib.hid (Bm.out.touch hS (by simp))
  replace Br := Lib.hid (Br.out.touch hS (by simp))
  replace Bn := Lib.hid (Bn.out.touch hS (by simp))
  replace HT := Lib.hid (HT.out.trans hS)
  clear hS rgp rgm rgr rgn h73
  rename World => w11
  go_upto_region 7 with fail
  go_wp2_with (first | (refine wpList_loadE rfl (.tmp 5) rfl (g3) rfl _ p Rp.out.len Bp.out ?_) | (refine wpList_loadE rfl (.tmp 6) rfl (g3 + 1) rfl _ q Rq.out.len Bq.out ?_) | (refine wpList_loadE rfl (.tmp 7) rfl (g5) rfl _ m Rm.out.len Bm.out ?_) | (refine wpList_loadE rfl (.tmp 8) rfl (g7) rfl _ r Rr.out.len Br.out ?_) | (refine wpList_loadE rfl (.tmp 10) rfl (g10) rfl _ n Rn.out.len Bn.out ?_))
  refine (root_b (b := true) Rq.out (by rw [Fq.out]; exact NY.out) _).mono ?_
  rintro e ws12 ⟨s, hs, hfs, rfl, ht⟩
  have Rs := Lib.hid hs
  have Fs := Lib.hid (show fe s = rootN Y by rw [hfs, Fq.out])
  replace Bp := Lib.hid (Bp.out.touch ht (by simp))
  replace Bq := Lib.hid (Bq.out.touch ht (by simp))
  replace Bm := Lib.hid (Bm.out.touch ht (by simp))
  replace Br := Lib.hid (Br.out.touch ht (by simp))
  replace Bn := Lib.hid (Bn.out.touch ht (by simp))
  replace HT := Lib.hid (HT.out.trans ht)
  clear hs hfs ht
  go_upto_region 8 with (first | (refine wpList_storeE rfl (.tmp 12) (.tmp 77) rfl (ws12.heap.size) rfl s rfl 24 _ Rs.out.len rfl (z1_0 ws12) ?_))
  obtain ⟨bs, bt⟩ := boxed1 ws12 s
  obtain ⟨w13, hw13⟩ : ∃ w13, w13 = ((ws12.alloc (.cells #[.int .i64 0, .int .i64 0, .int .i64 0, .int .i64 0, .int .i64 0, .int .i64 0, .int .i64 0, .int .i64 0, .int .i64 0, .int .i64 0, .int .i64 0, .int .i64 0, .int .i64 0, .int .i64 0, .int .i64 0, .int .i64 0] 24)).setRow (ws12.heap.size) (cellsZ s).toArray) := ⟨_, rfl⟩
  obtain ⟨g13, hg⟩ : ∃ g13, g13 = ws12.heap.size := ⟨_, rfl⟩
  rw [← hw13, ← hg] at bs
  rw [← hw13] at bt ⊢
  rw [← hg]
  replace Bp := Lib.hid (Bp.out.touch bt (by simp))
  replace Bq := Lib.hid (Bq.out.touch bt (by simp))
  replace Bm := Lib.hid (Bm.out.touch bt (by simp))
  replace Br := Lib.hid (Br.out.touch bt (by simp))
  replace Bn := Lib.hid (Bn.out.touch bt (by simp))
  replace HT := Lib.hid (HT.out.trans bt)
  have Bs := Lib.hid bs
  have ils := Lib.hid (infoL Rs.out)
  clear bs bt hw13 hg
  go_wp2_with (first | (refine wpList_loadE rfl (.tmp 5) rfl (g3) rfl _ p Rp.out.len Bp.out ?_) | (refine wpList_loadE rfl (.tmp 6) rfl (g3 + 1) rfl _ q Rq.out.len Bq.out ?_) | (refine wpList_loadE rfl (.tmp 7) rfl (g5) rfl _ m Rm.out.len Bm.out ?_) | (refine wpList_loadE rfl (.tmp 8) rfl (g7) rfl _ r Rr.out.len Br.out ?_) | (refine wpList_loadE rfl (.tmp 10) rfl (g10) rfl _ n Rn.out.len Bn.out ?_) | (refine wpList_loadE rfl (.tmp 12) rfl (g13) rfl _ s Rs.out.len Bs.out ?_))
  refine (mul_any q m Rq.out Rm.out _).mono ?_
  rintro e wu14 ⟨u, hu, hfu, rfl, ht⟩
  have Ru := Lib.hid hu
  have Fu := Lib.hid (show fe u = mulF Y (mulF X X) by rw [hfu, Fq.out, Fm.out])
  replace Bp := Lib.hid (Bp.out.touch ht (by simp))
  replace Bq := Lib.hid (Bq.out.touch ht (by simp))
  replace Bm := Lib.hid (Bm.out.touch ht (by simp))
  replace Br := Lib.hid (Br.out.touch ht (by simp))
  replace Bn := Lib.hid (Bn.out.touch ht (by simp))
  replace Bs := Lib.hid (Bs.out.touch ht (by simp))
  replace HT := Lib.hid (HT.out.trans ht)
  clear hu hfu ht
  go_wp2_with (first | (refine wpList_loadE rfl (.tmp 5) rfl (g3) rfl _ p Rp.out.len Bp.out ?_) | (refine wpList_loadE rfl (.tmp 6) rfl (g3 + 1) rfl _ q Rq.out.len Bq.out ?_) | (refine wpList_loadE rfl (.tmp 7) rfl (g5) rfl _ m Rm.out.len Bm.out ?_) | (refine wpList_loadE rfl (.tmp 8) rfl (g7) rfl _ r Rr.out.len Br.out ?_) | (refine wpList_loadE rfl (.tmp 10) rfl (g10) rfl _ n Rn.out.len Bn.out ?_) | (refine wpList_loadE rfl (.tmp 12) rfl (g13) rfl _ s Rs.out.len Bs.out ?_))
  refine (root_b (b := true) Ru.out (by rw [Fu.out]; exact NB.out) _).mono ?_
  rintro e wz15 ⟨z, hz, hfz, rfl, ht⟩
  have Rz := Lib.hid hz
  have Fz := Lib.hid (show fe z = rootN (mulF Y (mulF X X)) by rw [hfz, Fu.out])
  replace Bp := Lib.hid (Bp.out.touch ht (by simp))
  replace Bq := Lib.hid (Bq.out.touch ht (by simp))
  replace Bm := Lib.hid (Bm.out.touch ht (by simp))
  replace Br := Lib.hid (Br.out.touch ht (by simp))
  replace Bn := Lib.hid (Bn.out.touch ht (by simp))
  replace Bs := Lib.hid (Bs.out.touch ht (by simp))
  replace HT := Lib.hid (HT.out.trans ht)
  clear hz hfz ht
  go_upto_region 9 with (first | (refine wpList_storeE rfl (.tmp 14) (.tmp 84) rfl (wz15.heap.size) rfl z rfl 24 _ Rz.out.len rfl (z1_0 wz15) ?_))
  obtain ⟨bz, bt⟩ := boxed1 wz15 z
  obtain ⟨w16, hw16⟩ : ∃ w16, w16 = ((wz15.alloc (.cells #[.int .i64 0, .int .i64 0, .int .i64 0, .int .i64 0, .int .i64 0, .int .i64 0, .int .i64 0, .int .i64 0, .int .i64 0, .int .i64 0, .int .i64 0, .int .i64 0, .int .i64 0, .int .i64 0, .int .i64 0, .int .i64 0] 24)).setRow (wz15.heap.size) (cellsZ z).toArray) := ⟨_, rfl⟩
  obtain ⟨g16, hg⟩ : ∃ g16, g16 = wz15.heap.size := ⟨_, rfl⟩
  rw [← hw16, ← hg] at bz
  rw [← hw16] at bt ⊢
  rw [← hg]
  replace Bp := Lib.hid (Bp.out.touch bt (by simp))
  replace Bq := Lib.hid (Bq.out.touch bt (by simp))
  replace Bm := Lib.hid (Bm.out.touch bt (by simp))
  replace Br := Lib.hid (Br.out.touch bt (by simp))
  replace Bn := Lib.hid (Bn.out.touch bt (by simp))
  replace Bs := Lib.hid (Bs.out.touch bt (by simp))
  replace HT := Lib.hid (HT.out.trans bt)
  have Bz := Lib.hid bz
  have ilz := Lib.hid (infoL Rz.out)
  clear bz bt hw16 hg
  have rgp := Lib.hid (range_far Bp.out)
  have rgq := Lib.hid (range_far Bq.out)
  have rgs := Lib.hid (range_far Bs.out)
  refine wp_region_flow (by kernel_rfl) (fun W => Touch [] w16 W) (look [(4, isB true), (5, isP (g3)), (6, isP (g3 + 1)), (12, isP (g13)), (13, isB true), (15, isB true), (86, isB true), (87, isB true), (88, isB true), (89, EV (X)), (90, isB true), (91, isB false), (92, isB false), (93, isB false), (94, EV (X)), (95, isB true), (96, isB true), (97, isB true), (98, isB true), (99, isB true), (100, isB true), (101, isB true), (102, isB true), (103, isB false), (104, isB false), (105, EV (rootN Y)), (106, EV (rootN Y)), (107, EV (mulF (rootN Y) (rootN Y))), (108, EV (Y)), (109, isB true), (110, isB true), (111, EV (rootN Y)), (112, isB false), (113, isB true), (114, isB true), (115, isB true), (116, isB true), (117, isB true), (118, isB true), (119, isB true)]) [5, 6, 12, 13, 15] [86, 87, 88, 89, 90, 91, 92, 93, 94, 95, 96, 97, 98, 99, 100, 101, 102, 103, 104, 105, 106, 107, 108, 109, 110, 111, 112, 113, 114, 115, 116, 117, 118, 119, 4] [4] (by kernel_rfl) (by kernel_rfl) (by kernel_rfl) (by kernel_rfl) (by first | exact (Touch.refl _ _).drew | assumption) ⟨rfl, rfl, rfl, rfl, rfl, trivial⟩ ?_ ?_
  · refine FSteps.cons (FStep.plain rfl fun a w hS hE => OpTo.move rfl ⟨dOf.of 86 rfl (hE 13 (by kernel_rfl)), hS⟩) ?_
    refine FSteps.cons (FStep.plain rfl fun a w hS hE => OpTo.move rfl ⟨dOf.of 87 rfl (hE 15 (by kernel_rfl)), hS⟩) ?_
    refine FSteps.cons (FStep.plain rfl fun a w hS hE => OpTo.move rfl ⟨dOf.of 88 rfl (hE 87 (by kernel_rfl)), hS⟩) ?_
    refine FSteps.cons (FStep.go 88 rfl rfl (fun _ h => h) fun a w hS hE => OpTo.row _ (.tmp 5) rfl (g3) (hE 5 (by kernel_rfl)) (cellsZ p) _ (rgp.out w hS) Try.underlying24 rfl ilp.out ⟨dOf.of 89 rfl ⟨p, Rp.out, Fp.out, rfl⟩, hS⟩) ?_
    refine FSteps.cons (FStep.go 88 rfl rfl (fun _ h => h) fun a w hS hE => OpTo.call #[a.tmps.getD 89 undef] rfl Try.func25 (by kernel_rfl) (by kernel_rfl) (args1 ..) ((zero_v (hE 89 (by kernel_rfl)) K90.out w).mono fun _ _ h => Gives.to hS 90 rfl (fun _ h => h) h)) ?_
    refine FSteps.cons (FStep.go 88 rfl rfl (fun _ h => h) fun a w hS hE => OpTo.not true rfl (hE 90 (by kernel_rfl)) ⟨dOf.of 91 rfl (Eq.refl (Value.bool false)), hS⟩) ?_
    refine FSteps.cons (FStep.plain rfl fun a w hS hE => OpTo.pick true rfl (hE 88 (by kernel_rfl)) ⟨dOf.of 92 rfl (hE 91 (by kernel_rfl)), hS⟩) ?_
    refine FSteps.cons (FStep.plain rfl fun a w hS hE => OpTo.move rfl ⟨dOf.of 93 rfl (hE 92 (by kernel_rfl)), hS⟩) ?_
    refine FSteps.cons (FStep.go 93 rfl rfl (fun _ h => h) fun a w hS hE => OpTo.row _ (.tmp 5) rfl (g3) (hE 5 (by kernel_rfl)) (cellsZ p) _ (rgp.out w hS) Try.underlying24 rfl ilp.out ⟨dOf.of 94 rfl ⟨p, Rp.out, Fp.out, rfl⟩, hS⟩) ?_
    refine FSteps.cons (FStep.go 93 rfl rfl (fun _ h => h) fun a w hS hE => OpTo.call #[a.tmps.getD 94 undef] rfl Try.func25 (by kernel_rfl) (by kernel_rfl) (args1 ..) ((zero_v (hE 94 (by kernel_rfl)) K90.out w).mono fun _ _ h => Gives.to hS 95 rfl (fun _ h => h) h)) ?_
    refine FSteps.cons (FStep.go 93 rfl rfl (fun _ h => h) fun a w hS hE => OpTo.move rfl ⟨dOf.of 96 rfl (hE 95 (by kernel_rfl)), hS⟩) ?_
    refine FSteps.cons (FStep.go 96 rfl rfl (fun _ h => h) fun a w hS hE => OpTo.move rfl ⟨dOf.of 97 rfl (hE 13 (by kernel_rfl)), hS⟩) ?_
    refine FSteps.cons (FStep.go 93 rfl rfl (fun _ h => h) fun a w hS hE => OpTo.pick true rfl (hE 96 (by kernel_rfl)) ⟨dOf.of 98 rfl (hE 97 (by kernel_rfl)), hS⟩) ?_
    refine FSteps.cons (FStep.plain rfl fun a w hS hE => OpTo.pick false rfl (hE 93 (by kernel_rfl)) ⟨dOf.of 99 rfl (hE 98 (by kernel_rfl)), hS⟩) ?_
    refine FSteps.cons (FStep.plain rfl fun a w hS hE => OpTo.eqB Try.underlying4 true true rfl (hE 86 (by kernel_rfl)) (hE 99 (by kernel_rfl)) ⟨dOf.of 100 rfl (Eq.refl (Value.bool true)), hS⟩) ?_
    refine FSteps.cons (FStep.plain rfl fun a w hS hE => OpTo.move rfl ⟨dOf.of 101 rfl (hE 100 (by kernel_rfl)), hS⟩) ?_
    refine FSteps.cons (FStep.go 101 rfl rfl (fun _ h => h) fun a w hS hE => OpTo.move rfl ⟨dOf.of 102 rfl (hE 13 (by kernel_rfl)), hS⟩) ?_
    refine FSteps.cons (FStep.go 101 rfl rfl (fun _ h => h) fun a w hS hE => OpTo.not true rfl (hE 102 (by kernel_rfl)) ⟨dOf.of 103 rfl (Eq.refl (Value.bool false)), hS⟩) ?_
    refine FSteps.cons (FStep.go 101 rfl rfl (fun _ h => h) fun a w hS hE => OpTo.move rfl ⟨dOf.of 104 rfl (hE 103 (by kernel_rfl)), hS⟩) ?_
    refine FSteps.cons (FStep.go 104 rfl rfl (fun _ h => h) fun a w hS hE => OpTo.row _ (.tmp 12) rfl (g13) (hE 12 (by kernel_rfl)) (cellsZ s) _ (rgs.out w hS) Try.underlying24 rfl ils.out ⟨dOf.of 105 rfl ⟨s, Rs.out, Fs.out, rfl⟩, hS⟩) ?_
    refine FSteps.cons (FStep.go 104 rfl rfl (fun _ h => h) fun a w hS hE => OpTo.row _ (.tmp 12) rfl (g13) (hE 12 (by kernel_rfl)) (cellsZ s) _ (rgs.out w hS) Try.underlying24 rfl ils.out ⟨dOf.of 106 rfl ⟨s, Rs.out, Fs.out, rfl⟩, hS⟩) ?_
    refine FSteps.cons (FStep.go 104 rfl rfl (fun _ h => h) fun a w hS hE => OpTo.call #[a.tmps.getD 105 undef, a.tmps.getD 106 undef] rfl Try.func18 (by kernel_rfl) (by kernel_rfl) (args2 ..) ((mul_v (hE 105 (by kernel_rfl)) (hE 106 (by kernel_rfl)) w).mono fun _ _ h => Gives.to hS 107 rfl (fun _ h => h) h)) ?_
    refine FSteps.cons (FStep.go 104 rfl rfl (fun _ h => h) fun a w hS hE => OpTo.row _ (.tmp 6) rfl (g3 + 1) (hE 6 (by kernel_rfl)) (cellsZ q) _ (rgq.out w hS) Try.underlying24 rfl ilq.out ⟨dOf.of 108 rfl ⟨q, Rq.out, Fq.out, rfl⟩, hS⟩) ?_
    refine FSteps.cons (FStep.go 104 rfl rfl (fun _ h => h) fun a w hS hE => OpTo.call #[a.tmps.getD 107 undef, a.tmps.getD 108 undef] rfl Try.func22 (by kernel_rfl) (by kernel_rfl) (args2 ..) ((same_v (hE 107 (by kernel_rfl)) (hE 108 (by kernel_rfl)) K109.out w).mono fun _ _ h => Gives.to hS 109 rfl (fun _ h => h) h)) ?_
    refine FSteps.cons (FStep.go 104 rfl rfl (fun _ h => h) fun a w hS hE => OpTo.move rfl ⟨dOf.of 110 rfl (hE 109 (by kernel_rfl)), hS⟩) ?_
    refine FSteps.cons (FStep.go 110 rfl rfl (fun _ h => h) fun a w hS hE => OpTo.row _ (.tmp 12) rfl (g13) (hE 12 (by kernel_rfl)) (cellsZ s) _ (rgs.out w hS) Try.underlying24 rfl ils.out ⟨dOf.of 111 rfl ⟨s, Rs.out, Fs.out, rfl⟩, hS⟩) ?_
    refine FSteps.cons (FStep.go 110 rfl rfl (fun _ h => h) fun a w hS hE => OpTo.call #[a.tmps.getD 111 undef] rfl Try.func23 (by kernel_rfl) (by kernel_rfl) (args1 ..) ((odd_v (hE 111 (by kernel_rfl)) K112.out w).mono fun _ _ h => Gives.to hS 112 rfl (fun _ h => h) h)) ?_
    refine FSteps.cons (FStep.go 110 rfl rfl (fun _ h => h) fun a w hS hE => OpTo.not false rfl (hE 112 (by kernel_rfl)) ⟨dOf.of 113 rfl (Eq.refl (Value.bool true)), hS⟩) ?_
    refine FSteps.cons (FStep.go 104 rfl rfl (fun _ h => h) fun a w hS hE => OpTo.pick true rfl (hE 110 (by kernel_rfl)) ⟨dOf.of 114 rfl (hE 113 (by kernel_rfl)), hS⟩) ?_
    refine FSteps.cons (FStep.go 101 rfl rfl (fun _ h => h) fun a w hS hE => OpTo.pick false rfl (hE 104 (by kernel_rfl)) ⟨dOf.of 115 rfl (hE 114 (by kernel_rfl)), hS⟩) ?_
    refine FSteps.cons (FStep.plain rfl fun a w hS hE => OpTo.pick true rfl (hE 101 (by kernel_rfl)) ⟨dOf.of 116 rfl (hE 115 (by kernel_rfl)), hS⟩) ?_
    refine FSteps.cons (FStep.plain rfl fun a w hS hE => OpTo.move rfl ⟨dOf.of 117 rfl (hE 116 (by kernel_rfl)), hS⟩) ?_
    refine FSteps.cons (FStep.go 117 rfl rfl (fun _ h => h) fun a w hS hE => OpTo.call #[] rfl Try.func27 (by kernel_rfl) (by kernel_rfl) (args0 ..) ((fixed_v hfix w).mono fun _ _ h => Gives.to hS 118 rfl (fun _ h => h) h)) ?_
    refine FSteps.cons (FStep.plain rfl fun a w hS hE => OpTo.pick true rfl (hE 117 (by kernel_rfl)) ⟨dOf.of 119 rfl (hE 118 (by kernel_rfl)), hS⟩) ?_
    refine FSteps.cons (FStep.plain rfl fun a w hS hE => OpTo.assign rfl ⟨dOf.of 4 rfl (hE 119 (by kernel_rfl)), hS⟩) ?_
    exact FSteps.nil
  intro f wx hS hF
  obtain ⟨h4, -⟩ := hF
  replace h4 : f 4 = .bool true := h4
  (try unfold Act.put)
  simp only [setAll, List.setIfInBounds_toArray, List.set_cons_zero, List.set_cons_succ, h4]
  replace Bp := Lib.hid (Bp.out.touch hS (by simp))
  replace Bq := Lib.hid (Bq.out.touch hS (by simp))
  replace Bm := Lib.hid (Bm.out.touch hS (by simp))
  replace Br := Lib.hid (Br.out.touch hS (by simp))
  replace Bn := Lib.hid (Bn.out.touch hS (by simp))
  replace Bs := Lib.hid (Bs.out.touch hS (by simp))
  replace Bz := Lib.hid (Bz.out.touch hS (by simp))
  replace HT := Lib.hid (HT.out.trans hS)
  clear hS rgp rgq rgs h4
  rename World => w17
  
  go_wp2_with fail
  go_ret
  exact ⟨rfl, HT.out⟩
set_option maxRecDepth 100000 in
set_option maxHeartbeats 4000000 in
theorem fsq_0f (hfix : FixedOk) (a b : ByteArray) (w : World) (X Y : Nat) (HX : Hid (cutN a = X)) (HY : Hid (cutN b = Y)) (lX : X < PP) (_lY : Y < PP) (hR : rootN (mulF X X) = X) (h0 : X = 0) (hN : isN Y = false) : Calls Try.prog 8 #[.string a, .string b] w fun e w' => e = .returned (.bool true) ∧ Touch [] w w' := by
  have hq : isN (mulF X X) = true := sq_isN lX rfl
  have NQ := Lib.hid hq
  have NM := Lib.hid (neg_isN X)
  have NY := Lib.hid hN
  have K38 := Lib.hid (show decide (rootN (mulF X X) % 2 = 1) = false from decide_eq_false (root_even _))
  have K45 := Lib.hid (show decide (mulF (rootN (mulF X X)) (rootN (mulF X X)) = mulF X X) = true from decide_eq_true (root_sq hq))
  have K51 := Lib.hid (show decide (rootN (mulF X X) = X) = true from decide_eq_true (hR))
  have K71 := Lib.hid (show decide (mulF (rootN (negF (mulF X X))) (rootN (negF (mulF X X))) = negF (mulF X X)) = true from decide_eq_true (root_sq (neg_isN X)))
  have K90 := Lib.hid (show decide (X = 0) = true from decide_eq_true (h0))
  have NB := Lib.hid (show isN (mulF Y (mulF X X)) = true by rw [h0, mulF_zero, mulF_zero]; exact zero_isN)
  clear hq hR h0 hN lX _lY
  have HT := Lib.hid (Touch.refl [] w)
  go_enter Try.func8, Try.ntmps8
  go_wp2_with fail
  refine (cut_anyE a _).mono ?_
  rintro e wp1 ⟨p, hp, hfp, rfl, ht⟩
  have Rp := Lib.hid hp
  have Fp := Lib.hid (show fe p = X by rw [hfp, HX.out])
  replace HT := Lib.hid (HT.out.trans ht)
  clear hp hfp ht
  go_wp2_with fail
  refine (cut_anyE b _).mono ?_
  rintro e wq2 ⟨q, hq, hfq, rfl, ht⟩
  have Rq := Lib.hid hq
  have Fq := Lib.hid (show fe q = Y by rw [hfq, HY.out])
  replace HT := Lib.hid (HT.out.trans ht)
  clear hq hfq ht
  go_upto_region 2 with (first | (refine wpList_storeE rfl (.tmp 5) (.tmp 17) rfl (wq2.heap.size) rfl p rfl 24 _ Rp.out.len rfl (z2_0 wq2) ?_) | (refine wpList_storeE rfl (.tmp 6) (.tmp 19) rfl (wq2.heap.size + 1) rfl q rfl 24 _ Rq.out.len rfl (Blk.frow (z2_1 wq2) (by omega) _) ?_))
  obtain ⟨bp, bq, bt⟩ := boxed2 wq2 p q
  obtain ⟨w3, hw3⟩ : ∃ w3, w3 = ((((wq2.alloc (.cells #[.int .i64 0, .int .i64 0, .int .i64 0, .int .i64 0, .int .i64 0, .int .i64 0, .int .i64 0, .int .i64 0, .int .i64 0, .int .i64 0, .int .i64 0, .int .i64 0, .int .i64 0, .int .i64 0, .int .i64 0, .int .i64 0] 24)).alloc (.cells #[.int .i64 0, .int .i64 0, .int .i64 0, .int .i64 0, .int .i64 0, .int .i64 0, .int .i64 0, .int .i64 0, .int .i64 0, .int .i64 0, .int .i64 0, .int .i64 0, .int .i64 0, .int .i64 0, .int .i64 0, .int .i64 0] 24)).setRow (wq2.heap.size) (cellsZ p).toArray).setRow (wq2.heap.size + 1) (cellsZ q).toArray) := ⟨_, rfl⟩
  obtain ⟨g3, hg⟩ : ∃ g3, g3 = wq2.heap.size := ⟨_, rfl⟩
  rw [← hw3, ← hg] at bp bq
  rw [← hw3] at bt ⊢
  rw [← hg]
  replace HT := Lib.hid (HT.out.trans bt)
  have Bp := Lib.hid bp
  have ilp := Lib.hid (infoL Rp.out)
  have Bq := Lib.hid bq
  have ilq := Lib.hid (infoL Rq.out)
  clear bp bq bt hw3 hg
  go_wp2_with (first | (refine wpList_loadE rfl (.tmp 5) rfl (g3) rfl _ p Rp.out.len Bp.out ?_) | (refine wpList_loadE rfl (.tmp 6) rfl (g3 + 1) rfl _ q Rq.out.len Bq.out ?_))
  refine (mul_any p p Rp.out Rp.out _).mono ?_
  rintro e wm4 ⟨m, hm, hfm, rfl, ht⟩
  have Rm := Lib.hid hm
  have Fm := Lib.hid (show fe m = mulF X X by rw [hfm, Fp.out])
  replace Bp := Lib.hid (Bp.out.touch ht (by simp))
  replace Bq := Lib.hid (Bq.out.touch ht (by simp))
  replace HT := Lib.hid (HT.out.trans ht)
  clear hm hfm ht
  go_upto_region 3 with (first | (refine wpList_storeE rfl (.tmp 7) (.tmp 22) rfl (wm4.heap.size) rfl m rfl 24 _ Rm.out.len rfl (z1_0 wm4) ?_))
  obtain ⟨bm, bt⟩ := boxed1 wm4 m
  obtain ⟨w5, hw5⟩ : ∃ w5, w5 = ((wm4.alloc (.cells #[.int .i64 0, .int .i64 0, .int .i64 0, .int .i64 0, .int .i64 0, .int .i64 0, .int .i64 0, .int .i64 0, .int .i64 0, .int .i64 0, .int .i64 0, .int .i64 0, .int .i64 0, .int .i64 0, .int .i64 0, .int .i64 0] 24)).setRow (wm4.heap.size) (cellsZ m).toArray) := ⟨_, rfl⟩
  obtain ⟨g5, hg⟩ : ∃ g5, g5 = wm4.heap.size := ⟨_, rfl⟩
  rw [← hw5, ← hg] at bm
  rw [← hw5] at bt ⊢
  rw [← hg]
  replace Bp := Lib.hid (Bp.out.touch bt (by simp))
  replace Bq := Lib.hid (Bq.out.touch bt (by simp))
  replace HT := Lib.hid (HT.out.trans bt)
  have Bm := Lib.hid bm
  have ilm := Lib.hid (infoL Rm.out)
  clear bm bt hw5 hg
  go_wp2_with (first | (refine wpList_loadE rfl (.tmp 5) rfl (g3) rfl _ p Rp.out.len Bp.out ?_) | (refine wpList_loadE rfl (.tmp 6) rfl (g3 + 1) rfl _ q Rq.out.len Bq.out ?_) | (refine wpList_loadE rfl (.tmp 7) rfl (g5) rfl _ m Rm.out.len Bm.out ?_))
  refine (root_b (b := true) Rm.out (by rw [Fm.out]; exact NQ.out) _).mono ?_
  rintro e wr6 ⟨r, hr, hfr, rfl, ht⟩
  have Rr := Lib.hid hr
  have Fr := Lib.hid (show fe r = rootN (mulF X X) by rw [hfr, Fm.out])
  replace Bp := Lib.hid (Bp.out.touch ht (by simp))
  replace Bq := Lib.hid (Bq.out.touch ht (by simp))
  replace Bm := Lib.hid (Bm.out.touch ht (by simp))
  replace HT := Lib.hid (HT.out.trans ht)
  clear hr hfr ht
  go_upto_region 4 with (first | (refine wpList_storeE rfl (.tmp 8) (.tmp 26) rfl (wr6.heap.size) rfl r rfl 24 _ Rr.out.len rfl (z1_0 wr6) ?_))
  obtain ⟨br, bt⟩ := boxed1 wr6 r
  obtain ⟨w7, hw7⟩ : ∃ w7, w7 = ((wr6.alloc (.cells #[.int .i64 0, .int .i64 0, .int .i64 0, .int .i64 0, .int .i64 0, .int .i64 0, .int .i64 0, .int .i64 0, .int .i64 0, .int .i64 0, .int .i64 0, .int .i64 0, .int .i64 0, .int .i64 0, .int .i64 0, .int .i64 0] 24)).setRow (wr6.heap.size) (cellsZ r).toArray) := ⟨_, rfl⟩
  obtain ⟨g7, hg⟩ : ∃ g7, g7 = wr6.heap.size := ⟨_, rfl⟩
  rw [← hw7, ← hg] at br
  rw [← hw7] at bt ⊢
  rw [← hg]
  replace Bp := Lib.hid (Bp.out.touch bt (by simp))
  replace Bq := Lib.hid (Bq.out.touch bt (by simp))
  replace Bm := Lib.hid (Bm.out.touch bt (by simp))
  replace HT := Lib.hid (HT.out.trans bt)
  have Br := Lib.hid br
  have ilr := Lib.hid (infoL Rr.out)
  clear br bt hw7 hg
  go_wp2_with (first | (refine wpList_loadE rfl (.tmp 5) rfl (g3) rfl _ p Rp.out.len Bp.out ?_) | (refine wpList_loadE rfl (.tmp 6) rfl (g3 + 1) rfl _ q Rq.out.len Bq.out ?_) | (refine wpList_loadE rfl (.tmp 7) rfl (g5) rfl _ m Rm.out.len Bm.out ?_) | (refine wpList_loadE rfl (.tmp 8) rfl (g7) rfl _ r Rr.out.len Br.out ?_))
  refine (neg_anyE m Rm.out _).mono ?_
  rintro e wv8 ⟨v, hv, hfv, rfl, ht⟩
  have Rv := Lib.hid hv
  have Fv := Lib.hid (show fe v = negF (mulF X X) by rw [hfv, Fm.out])
  replace Bp := Lib.hid (Bp.out.touch ht (by simp))
  replace Bq := Lib.hid (Bq.out.touch ht (by simp))
  replace Bm := Lib.hid (Bm.out.touch ht (by simp))
  replace Br := Lib.hid (Br.out.touch ht (by simp))
  replace HT := Lib.hid (HT.out.trans ht)
  clear hv hfv ht
  go_wp2_with (first | (refine wpList_loadE rfl (.tmp 5) rfl (g3) rfl _ p Rp.out.len Bp.out ?_) | (refine wpList_loadE rfl (.tmp 6) rfl (g3 + 1) rfl _ q Rq.out.len Bq.out ?_) | (refine wpList_loadE rfl (.tmp 7) rfl (g5) rfl _ m Rm.out.len Bm.out ?_) | (refine wpList_loadE rfl (.tmp 8) rfl (g7) rfl _ r Rr.out.len Br.out ?_))
  refine (root_b (b := true) Rv.out (by rw [Fv.out]; exact NM.out) _).mono ?_
  rintro e wn9 ⟨n, hn, hfn, rfl, ht⟩
  have Rn := Lib.hid hn
  have Fn := Lib.hid (show fe n = rootN (negF (mulF X X)) by rw [hfn, Fv.out])
  replace Bp := Lib.hid (Bp.out.touch ht (by simp))
  replace Bq := Lib.hid (Bq.out.touch ht (by simp))
  replace Bm := Lib.hid (Bm.out.touch ht (by simp))
  replace Br := Lib.hid (Br.out.touch ht (by simp))
  replace HT := Lib.hid (HT.out.trans ht)
  clear hn hfn ht
  go_upto_region 5 with (first | (refine wpList_storeE rfl (.tmp 10) (.tmp 32) rfl (wn9.heap.size) rfl n rfl 24 _ Rn.out.len rfl (z1_0 wn9) ?_))
  obtain ⟨bn, bt⟩ := boxed1 wn9 n
  obtain ⟨w10, hw10⟩ : ∃ w10, w10 = ((wn9.alloc (.cells #[.int .i64 0, .int .i64 0, .int .i64 0, .int .i64 0, .int .i64 0, .int .i64 0, .int .i64 0, .int .i64 0, .int .i64 0, .int .i64 0, .int .i64 0, .int .i64 0, .int .i64 0, .int .i64 0, .int .i64 0, .int .i64 0] 24)).setRow (wn9.heap.size) (cellsZ n).toArray) := ⟨_, rfl⟩
  obtain ⟨g10, hg⟩ : ∃ g10, g10 = wn9.heap.size := ⟨_, rfl⟩
  rw [← hw10, ← hg] at bn
  rw [← hw10] at bt ⊢
  rw [← hg]
  replace Bp := Lib.hid (Bp.out.touch bt (by simp))
  replace Bq := Lib.hid (Bq.out.touch bt (by simp))
  replace Bm := Lib.hid (Bm.out.touch bt (by simp))
  replace Br := Lib.hid (Br.out.touch bt (by simp))
  replace HT := Lib.hid (HT.out.trans bt)
  have Bn := Lib.hid bn
  have iln := Lib.hid (infoL Rn.out)
  clear bn bt hw10 hg
  have rgp := Lib.hid (range_far Bp.out)
  have rgm := Lib.hid (range_far Bm.out)
  have rgr := Lib.hid (range_far Br.out)
  have rgn := Lib.hid (range_far Bn.out)
  refine wp_region_flow (by kernel_rfl) (fun W => Touch [] w10 W) (look [(5, isP (g3)), (7, isP (g5)), (8, isP (g7)), (9, isB true), (10, isP (g10)), (11, isB true), (34, isB true), (35, isB false), (36, isB false), (37, EV (rootN (mulF X X))), (38, isB false), (39, isB false), (40, isB false), (41, EV (rootN (mulF X X))), (42, EV (rootN (mulF X X))), (43, EV (mulF (rootN (mulF X X)) (rootN (mulF X X)))), (44, EV (mulF X X)), (45, isB true), (46, isB false), (47, isB false), (48, isB false), (49, EV (rootN (mulF X X))), (50, EV (X)), (51, isB true), (52, isB false), (53, isB false), (54, isU), (55, isU), (56, isU), (57, isU), (58, isU), (59, isB false), (60, isB false), (61, isB false), (62, isB true), (63, isB false), (64, isB false), (65, isB false), (66, EV (rootN (negF (mulF X X)))), (67, EV (rootN (negF (mulF X X)))), (68, EV (mulF (rootN (negF (mulF X X))) (rootN (negF (mulF X X))))), (69, EV (mulF X X)), (70, EV (negF (mulF X X))), (71, isB true), (72, isB false), (73, isB false)]) [5, 7, 8, 9, 10, 11] [34, 35, 36, 37, 38, 39, 40, 41, 42, 43, 44, 45, 46, 47, 48, 49, 50, 51, 52, 53, 54, 55, 56, 57, 58, 59, 60, 61, 62, 63, 64, 65, 66, 67, 68, 69, 70, 71, 72, 73] [73] (by kernel_rfl) (by kernel_rfl) (by kernel_rfl) (by kernel_rfl) (by first | exact (Touch.refl _ _).drew | assumption) ⟨rfl, rfl, rfl, rfl, rfl, rfl, trivial⟩ ?_ ?_
  · refine FSteps.cons (FStep.plain rfl fun a w hS hE => OpTo.move rfl ⟨dOf.of 34 rfl (hE 9 (by kernel_rfl)), hS⟩) ?_
    refine FSteps.cons (FStep.plain rfl fun a w hS hE => OpTo.not true rfl (hE 34 (by kernel_rfl)) ⟨dOf.of 35 rfl (Eq.refl (Value.bool false)), hS⟩) ?_
    refine FSteps.cons (FStep.plain rfl fun a w hS hE => OpTo.move rfl ⟨dOf.of 36 rfl (hE 35 (by kernel_rfl)), hS⟩) ?_
    refine FSteps.cons (FStep.go 36 rfl rfl (fun _ h => h) fun a w hS hE => OpTo.row _ (.tmp 8) rfl (g7) (hE 8 (by kernel_rfl)) (cellsZ r) _ (rgr.out w hS) Try.underlying24 rfl ilr.out ⟨dOf.of 37 rfl ⟨r, Rr.out, Fr.out, rfl⟩, hS⟩) ?_
    refine FSteps.cons (FStep.go 36 rfl rfl (fun _ h => h) fun a w hS hE => OpTo.call #[a.tmps.getD 37 undef] rfl Try.func23 (by kernel_rfl) (by kernel_rfl) (args1 ..) ((odd_v (hE 37 (by kernel_rfl)) K38.out w).mono fun _ _ h => Gives.to hS 38 rfl (fun _ h => h) h)) ?_
    refine FSteps.cons (FStep.plain rfl fun a w hS hE => OpTo.pick false rfl (hE 36 (by kernel_rfl)) ⟨dOf.of 39 rfl (hE 38 (by kernel_rfl)), hS⟩) ?_
    refine FSteps.cons (FStep.plain rfl fun a w hS hE => OpTo.move rfl ⟨dOf.of 40 rfl (hE 39 (by kernel_rfl)), hS⟩) ?_
    refine FSteps.cons (FStep.go 40 rfl rfl (fun _ h => h) fun a w hS hE => OpTo.row _ (.tmp 8) rfl (g7) (hE 8 (by kernel_rfl)) (cellsZ r) _ (rgr.out w hS) Try.underlying24 rfl ilr.out ⟨dOf.of 41 rfl ⟨r, Rr.out, Fr.out, rfl⟩, hS⟩) ?_
    refine FSteps.cons (FStep.go 40 rfl rfl (fun _ h => h) fun a w hS hE => OpTo.row _ (.tmp 8) rfl (g7) (hE 8 (by kernel_rfl)) (cellsZ r) _ (rgr.out w hS) Try.underlying24 rfl ilr.out ⟨dOf.of 42 rfl ⟨r, Rr.out, Fr.out, rfl⟩, hS⟩) ?_
    refine FSteps.cons (FStep.go 40 rfl rfl (fun _ h => h) fun a w hS hE => OpTo.call #[a.tmps.getD 41 undef, a.tmps.getD 42 undef] rfl Try.func18 (by kernel_rfl) (by kernel_rfl) (args2 ..) ((mul_v (hE 41 (by kernel_rfl)) (hE 42 (by kernel_rfl)) w).mono fun _ _ h => Gives.to hS 43 rfl (fun _ h => h) h)) ?_
    refine FSteps.cons (FStep.go 40 rfl rfl (fun _ h => h) fun a w hS hE => OpTo.row _ (.tmp 7) rfl (g5) (hE 7 (by kernel_rfl)) (cellsZ m) _ (rgm.out w hS) Try.underlying24 rfl ilm.out ⟨dOf.of 44 rfl ⟨m, Rm.out, Fm.out, rfl⟩, hS⟩) ?_
    refine FSteps.cons (FStep.go 40 rfl rfl (fun _ h => h) fun a w hS hE => OpTo.call #[a.tmps.getD 43 undef, a.tmps.getD 44 undef] rfl Try.func22 (by kernel_rfl) (by kernel_rfl) (args2 ..) ((same_v (hE 43 (by kernel_rfl)) (hE 44 (by kernel_rfl)) K45.out w).mono fun _ _ h => Gives.to hS 45 rfl (fun _ h => h) h)) ?_
    refine FSteps.cons (FStep.go 40 rfl rfl (fun _ h => h) fun a w hS hE => OpTo.not true rfl (hE 45 (by kernel_rfl)) ⟨dOf.of 46 rfl (Eq.refl (Value.bool false)), hS⟩) ?_
    refine FSteps.cons (FStep.plain rfl fun a w hS hE => OpTo.pick false rfl (hE 40 (by kernel_rfl)) ⟨dOf.of 47 rfl (hE 46 (by kernel_rfl)), hS⟩) ?_
    refine FSteps.cons (FStep.plain rfl fun a w hS hE => OpTo.move rfl ⟨dOf.of 48 rfl (hE 47 (by kernel_rfl)), hS⟩) ?_
    refine FSteps.cons (FStep.go 48 rfl rfl (fun _ h => h) fun a w hS hE => OpTo.row _ (.tmp 8) rfl (g7) (hE 8 (by kernel_rfl)) (cellsZ r) _ (rgr.out w hS) Try.underlying24 rfl ilr.out ⟨dOf.of 49 rfl ⟨r, Rr.out, Fr.out, rfl⟩, hS⟩) ?_
    refine FSteps.cons (FStep.go 48 rfl rfl (fun _ h => h) fun a w hS hE => OpTo.row _ (.tmp 5) rfl (g3) (hE 5 (by kernel_rfl)) (cellsZ p) _ (rgp.out w hS) Try.underlying24 rfl ilp.out ⟨dOf.of 50 rfl ⟨p, Rp.out, Fp.out, rfl⟩, hS⟩) ?_
    refine FSteps.cons (FStep.go 48 rfl rfl (fun _ h => h) fun a w hS hE => OpTo.call #[a.tmps.getD 49 undef, a.tmps.getD 50 undef] rfl Try.func22 (by kernel_rfl) (by kernel_rfl) (args2 ..) ((same_v (hE 49 (by kernel_rfl)) (hE 50 (by kernel_rfl)) K51.out w).mono fun _ _ h => Gives.to hS 51 rfl (fun _ h => h) h)) ?_
    refine FSteps.cons (FStep.go 48 rfl rfl (fun _ h => h) fun a w hS hE => OpTo.not true rfl (hE 51 (by kernel_rfl)) ⟨dOf.of 52 rfl (Eq.refl (Value.bool false)), hS⟩) ?_
    refine FSteps.cons (FStep.go 48 rfl rfl (fun _ h => h) fun a w hS hE => OpTo.move rfl ⟨dOf.of 53 rfl (hE 52 (by kernel_rfl)), hS⟩) ?_
    refine FSteps.cons (FStep.no 53 rfl rfl (fun _ h => h) (dOf.of 54 rfl rfl)) ?_
    refine FSteps.cons (FStep.no 53 rfl rfl (fun _ h => h) (dOf.of 55 rfl rfl)) ?_
    refine FSteps.cons (FStep.no 53 rfl rfl (fun _ h => h) (dOf.of 56 rfl rfl)) ?_
    refine FSteps.cons (FStep.no 53 rfl rfl (fun _ h => h) (dOf.of 57 rfl rfl)) ?_
    refine FSteps.cons (FStep.no 53 rfl rfl (fun _ h => h) (dOf.of 58 rfl rfl)) ?_
    refine FSteps.cons (FStep.go 48 rfl rfl (fun _ h => h) fun a w hS hE => OpTo.pick false rfl (hE 53 (by kernel_rfl)) ⟨dOf.of 59 rfl (Eq.refl (Value.bool false)), hS⟩) ?_
    refine FSteps.cons (FStep.plain rfl fun a w hS hE => OpTo.pick false rfl (hE 48 (by kernel_rfl)) ⟨dOf.of 60 rfl (hE 59 (by kernel_rfl)), hS⟩) ?_
    refine FSteps.cons (FStep.plain rfl fun a w hS hE => OpTo.move rfl ⟨dOf.of 61 rfl (hE 60 (by kernel_rfl)), hS⟩) ?_
    refine FSteps.cons (FStep.go 61 rfl rfl (fun _ h => h) fun a w hS hE => OpTo.move rfl ⟨dOf.of 62 rfl (hE 11 (by kernel_rfl)), hS⟩) ?_
    refine FSteps.cons (FStep.go 61 rfl rfl (fun _ h => h) fun a w hS hE => OpTo.not true rfl (hE 62 (by kernel_rfl)) ⟨dOf.of 63 rfl (Eq.refl (Value.bool false)), hS⟩) ?_
    refine FSteps.cons (FStep.plain rfl fun a w hS hE => OpTo.pick false rfl (hE 61 (by kernel_rfl)) ⟨dOf.of 64 rfl (hE 63 (by kernel_rfl)), hS⟩) ?_
    refine FSteps.cons (FStep.plain rfl fun a w hS hE => OpTo.move rfl ⟨dOf.of 65 rfl (hE 64 (by kernel_rfl)), hS⟩) ?_
    refine FSteps.cons (FStep.go 65 rfl rfl (fun _ h => h) fun a w hS hE => OpTo.row _ (.tmp 10) rfl (g10) (hE 10 (by kernel_rfl)) (cellsZ n) _ (rgn.out w hS) Try.underlying24 rfl iln.out ⟨dOf.of 66 rfl ⟨n, Rn.out, Fn.out, rfl⟩, hS⟩) ?_
    refine FSteps.cons (FStep.go 65 rfl rfl (fun _ h => h) fun a w hS hE => OpTo.row _ (.tmp 10) rfl (g10) (hE 10 (by kernel_rfl)) (cellsZ n) _ (rgn.out w hS) Try.underlying24 rfl iln.out ⟨dOf.of 67 rfl ⟨n, Rn.out, Fn.out, rfl⟩, hS⟩) ?_
    refine FSteps.cons (FStep.go 65 rfl rfl (fun _ h => h) fun a w hS hE => OpTo.call #[a.tmps.getD 66 undef, a.tmps.getD 67 undef] rfl Try.func18 (by kernel_rfl) (by kernel_rfl) (args2 ..) ((mul_v (hE 66 (by kernel_rfl)) (hE 67 (by kernel_rfl)) w).mono fun _ _ h => Gives.to hS 68 rfl (fun _ h => h) h)) ?_
    refine FSteps.cons (FStep.go 65 rfl rfl (fun _ h => h) fun a w hS hE => OpTo.row _ (.tmp 7) rfl (g5) (hE 7 (by kernel_rfl)) (cellsZ m) _ (rgm.out w hS) Try.underlying24 rfl ilm.out ⟨dOf.of 69 rfl ⟨m, Rm.out, Fm.out, rfl⟩, hS⟩) ?_
    refine FSteps.cons (FStep.go 65 rfl rfl (fun _ h => h) fun a w hS hE => OpTo.call #[a.tmps.getD 69 undef] rfl Try.func20 (by kernel_rfl) (by kernel_rfl) (args1 ..) ((neg_v (hE 69 (by kernel_rfl)) w).mono fun _ _ h => Gives.to hS 70 rfl (fun _ h => h) h)) ?_
    refine FSteps.cons (FStep.go 65 rfl rfl (fun _ h => h) fun a w hS hE => OpTo.call #[a.tmps.getD 68 undef, a.tmps.getD 70 undef] rfl Try.func22 (by kernel_rfl) (by kernel_rfl) (args2 ..) ((same_v (hE 68 (by kernel_rfl)) (hE 70 (by kernel_rfl)) K71.out w).mono fun _ _ h => Gives.to hS 71 rfl (fun _ h => h) h)) ?_
    refine FSteps.cons (FStep.go 65 rfl rfl (fun _ h => h) fun a w hS hE => OpTo.not true rfl (hE 71 (by kernel_rfl)) ⟨dOf.of 72 rfl (Eq.refl (Value.bool false)), hS⟩) ?_
    refine FSteps.cons (FStep.plain rfl fun a w hS hE => OpTo.pick false rfl (hE 65 (by kernel_rfl)) ⟨dOf.of 73 rfl (hE 72 (by kernel_rfl)), hS⟩) ?_
    exact FSteps.nil
  intro f wx hS hF
  obtain ⟨h73, -⟩ := hF
  replace h73 : f 73 = .bool false := h73
  (try unfold Act.put)
  simp only [setAll, List.setIfInBounds_toArray, List.set_cons_zero, List.set_cons_succ, h73]
  replace Bp := Lib.hid (Bp.out.touch hS (by simp))
  replace Bq := Lib.hid (Bq.out.touch hS (by simp))
  replace Bm := Lib.hid (Bm.out.touch hS (by simp))
  replace Br := Lib.hid (Br.out.touch hS (by simp))
  replace Bn := Lib.hid (Bn.out.touch hS (by simp))
  replace HT := Lib.hid (HT.out.trans hS)
  clear hS rgp rgm rgr rgn h73
  rename World => w11
  go_upto_region 7 with fail
  go_wp2_with (first | (refine wpList_loadE rfl (.tmp 5) rfl (g3) rfl _ p Rp.out.len Bp.out ?_) | (refine wpList_loadE rfl (.tmp 6) rfl (g3 + 1) rfl _ q Rq.out.len Bq.out ?_) | (refine wpList_loadE rfl (.tmp 7) rfl (g5) rfl _ m Rm.out.len Bm.out ?_) | (refine wpList_loadE rfl (.tmp 8) rfl (g7) rfl _ r Rr.out.len Br.out ?_) | (refine wpList_loadE rfl (.tmp 10) rfl (g10) rfl _ n Rn.out.len Bn.out ?_))
  refine (root_b (b := false) Rq.out (by rw [Fq.out]; exact NY.out) _).mono ?_
  rintro e ws12 ⟨s, hs, hfs, rfl, ht⟩
  have Rs := Lib.hid hs
  have Fs := Lib.hid (show fe s = rootN Y by rw [hfs, Fq.out])
  replace Bp := Lib.hid (Bp.out.touch ht (by simp))
  replace Bq := Lib.hid (Bq.out.touch ht (by simp))
  replace Bm := Lib.hid (Bm.out.touch ht (by simp))
  replace Br := Lib.hid (Br.out.touch ht (by simp))
  replace Bn := Lib.hid (Bn.out.touch ht (by simp))
  replace HT := Lib.hid (HT.out.trans ht)
  clear hs hfs ht
  go_upto_region 8 with (first | (refine wpList_storeE rfl (.tmp 12) (.tmp 77) rfl (ws12.heap.size) rfl s rfl 24 _ Rs.out.len rfl (z1_0 ws12) ?_))
  obtain ⟨bs, bt⟩ := boxed1 ws12 s
  obtain ⟨w13, hw13⟩ : ∃ w13, w13 = ((ws12.alloc (.cells #[.int .i64 0, .int .i64 0, .int .i64 0, .int .i64 0, .int .i64 0, .int .i64 0, .int .i64 0, .int .i64 0, .int .i64 0, .int .i64 0, .int .i64 0, .int .i64 0, .int .i64 0, .int .i64 0, .int .i64 0, .int .i64 0] 24)).setRow (ws12.heap.size) (cellsZ s).toArray) := ⟨_, rfl⟩
  obtain ⟨g13, hg⟩ : ∃ g13, g13 = ws12.heap.size := ⟨_, rfl⟩
  rw [← hw13, ← hg] at bs
  rw [← hw13] at bt ⊢
  rw [← hg]
  replace Bp := Lib.hid (Bp.out.touch bt (by simp))
  replace Bq := Lib.hid (Bq.out.touch bt (by simp))
  replace Bm := Lib.hid (Bm.out.touch bt (by simp))
  replace Br := Lib.hid (Br.out.touch bt (by simp))
  replace Bn := Lib.hid (Bn.out.touch bt (by simp))
  replace HT := Lib.hid (HT.out.trans bt)
  have Bs := Lib.hid bs
  have ils := Lib.hid (infoL Rs.out)
  clear bs bt hw13 hg
  go_wp2_with (first | (refine wpList_loadE rfl (.tmp 5) rfl (g3) rfl _ p Rp.out.len Bp.out ?_) | (refine wpList_loadE rfl (.tmp 6) rfl (g3 + 1) rfl _ q Rq.out.len Bq.out ?_) | (refine wpList_loadE rfl (.tmp 7) rfl (g5) rfl _ m Rm.out.len Bm.out ?_) | (refine wpList_loadE rfl (.tmp 8) rfl (g7) rfl _ r Rr.out.len Br.out ?_) | (refine wpList_loadE rfl (.tmp 10) rfl (g10) rfl _ n Rn.out.len Bn.out ?_) | (refine wpList_loadE rfl (.tmp 12) rfl (g13) rfl _ s Rs.out.len Bs.out ?_))
  refine (mul_any q m Rq.out Rm.out _).mono ?_
  rintro e wu14 ⟨u, hu, hfu, rfl, ht⟩
  have Ru := Lib.hid hu
  have Fu := Lib.hid (show fe u = mulF Y (mulF X X) by rw [hfu, Fq.out, Fm.out])
  replace Bp := Lib.hid (Bp.out.touch ht (by simp))
  replace Bq := Lib.hid (Bq.out.touch ht (by simp))
  replace Bm := Lib.hid (Bm.out.touch ht (by simp))
  replace Br := Lib.hid (Br.out.touch ht (by simp))
  replace Bn := Lib.hid (Bn.out.touch ht (by simp))
  replace Bs := Lib.hid (Bs.out.touch ht (by simp))
  replace HT := Lib.hid (HT.out.trans ht)
  clear hu hfu ht
  go_wp2_with (first | (refine wpList_loadE rfl (.tmp 5) rfl (g3) rfl _ p Rp.out.len Bp.out ?_) | (refine wpList_loadE rfl (.tmp 6) rfl (g3 + 1) rfl _ q Rq.out.len Bq.out ?_) | (refine wpList_loadE rfl (.tmp 7) rfl (g5) rfl _ m Rm.out.len Bm.out ?_) | (refine wpList_loadE rfl (.tmp 8) rfl (g7) rfl _ r Rr.out.len Br.out ?_) | (refine wpList_loadE rfl (.tmp 10) rfl (g10) rfl _ n Rn.out.len Bn.out ?_) | (refine wpList_loadE rfl (.tmp 12) rfl (g13) rfl _ s Rs.out.len Bs.out ?_))
  refine (root_b (b := true) Ru.out (by rw [Fu.out]; exact NB.out) _).mono ?_
  rintro e wz15 ⟨z, hz, hfz, rfl, ht⟩
  have Rz := Lib.hid hz
  have Fz := Lib.hid (show fe z = rootN (mulF Y (mulF X X)) by rw [hfz, Fu.out])
  replace Bp := Lib.hid (Bp.out.touch ht (by simp))
  replace Bq := Lib.hid (Bq.out.touch ht (by simp))
  replace Bm := Lib.hid (Bm.out.touch ht (by simp))
  replace Br := Lib.hid (Br.out.touch ht (by simp))
  replace Bn := Lib.hid (Bn.out.touch ht (by simp))
  replace Bs := Lib.hid (Bs.out.touch ht (by simp))
  replace HT := Lib.hid (HT.out.trans ht)
  clear hz hfz ht
  go_upto_region 9 with (first | (refine wpList_storeE rfl (.tmp 14) (.tmp 84) rfl (wz15.heap.size) rfl z rfl 24 _ Rz.out.len rfl (z1_0 wz15) ?_))
  obtain ⟨bz, bt⟩ := boxed1 wz15 z
  obtain ⟨w16, hw16⟩ : ∃ w16, w16 = ((wz15.alloc (.cells #[.int .i64 0, .int .i64 0, .int .i64 0, .int .i64 0, .int .i64 0, .int .i64 0, .int .i64 0, .int .i64 0, .int .i64 0, .int .i64 0, .int .i64 0, .int .i64 0, .int .i64 0, .int .i64 0, .int .i64 0, .int .i64 0] 24)).setRow (wz15.heap.size) (cellsZ z).toArray) := ⟨_, rfl⟩
  obtain ⟨g16, hg⟩ : ∃ g16, g16 = wz15.heap.size := ⟨_, rfl⟩
  rw [← hw16, ← hg] at bz
  rw [← hw16] at bt ⊢
  rw [← hg]
  replace Bp := Lib.hid (Bp.out.touch bt (by simp))
  replace Bq := Lib.hid (Bq.out.touch bt (by simp))
  replace Bm := Lib.hid (Bm.out.touch bt (by simp))
  replace Br := Lib.hid (Br.out.touch bt (by simp))
  replace Bn := Lib.hid (Bn.out.touch bt (by simp))
  replace Bs := Lib.hid (Bs.out.touch bt (by simp))
  replace HT := Lib.hid (HT.out.trans bt)
  have Bz := Lib.hid bz
  have ilz := Lib.hid (infoL Rz.out)
  clear bz bt hw16 hg
  have rgp := Lib.hid (range_far Bp.out)
  have rgq := Lib.hid (range_far Bq.out)
  have rgs := Lib.hid (range_far Bs.out)
  refine wp_region_flow (by kernel_rfl) (fun W => Touch [] w16 W) (look [(4, isB true), (5, isP (g3)), (6, isP (g3 + 1)), (12, isP (g13)), (13, isB false), (15, isB true), (86, isB false), (87, isB true), (88, isB true), (89, EV (X)), (90, isB true), (91, isB false), (92, isB false), (93, isB false), (94, EV (X)), (95, isB true), (96, isB true), (97, isB false), (98, isB false), (99, isB false), (100, isB true), (101, isB true), (102, isB false), (103, isB true), (104, isB true), (105, isU), (106, isU), (107, isU), (108, isU), (109, isU), (110, isU), (111, isU), (112, isU), (113, isU), (114, isU), (115, isB true), (116, isB true), (117, isB true), (118, isB true), (119, isB true)]) [5, 6, 12, 13, 15] [86, 87, 88, 89, 90, 91, 92, 93, 94, 95, 96, 97, 98, 99, 100, 101, 102, 103, 104, 105, 106, 107, 108, 109, 110, 111, 112, 113, 114, 115, 116, 117, 118, 119, 4] [4] (by kernel_rfl) (by kernel_rfl) (by kernel_rfl) (by kernel_rfl) (by first | exact (Touch.refl _ _).drew | assumption) ⟨rfl, rfl, rfl, rfl, rfl, trivial⟩ ?_ ?_
  · refine FSteps.cons (FStep.plain rfl fun a w hS hE => OpTo.move rfl ⟨dOf.of 86 rfl (hE 13 (by kernel_rfl)), hS⟩) ?_
    refine FSteps.cons (FStep.plain rfl fun a w hS hE => OpTo.move rfl ⟨dOf.of 87 rfl (hE 15 (by kernel_rfl)), hS⟩) ?_
    refine FSteps.cons (FStep.plain rfl fun a w hS hE => OpTo.move rfl ⟨dOf.of 88 rfl (hE 87 (by kernel_rfl)), hS⟩) ?_
    refine FSteps.cons (FStep.go 88 rfl rfl (fun _ h => h) fun a w hS hE => OpTo.row _ (.tmp 5) rfl (g3) (hE 5 (by kernel_rfl)) (cellsZ p) _ (rgp.out w hS) Try.underlying24 rfl ilp.out ⟨dOf.of 89 rfl ⟨p, Rp.out, Fp.out, rfl⟩, hS⟩) ?_
    refine FSteps.cons (FStep.go 88 rfl rfl (fun _ h => h) fun a w hS hE => OpTo.call #[a.tmps.getD 89 undef] rfl Try.func25 (by kernel_rfl) (by kernel_rfl) (args1 ..) ((zero_v (hE 89 (by kernel_rfl)) K90.out w).mono fun _ _ h => Gives.to hS 90 rfl (fun _ h => h) h)) ?_
    refine FSteps.cons (FStep.go 88 rfl rfl (fun _ h => h) fun a w hS hE => OpTo.not true rfl (hE 90 (by kernel_rfl)) ⟨dOf.of 91 rfl (Eq.refl (Value.bool false)), hS⟩) ?_
    refine FSteps.cons (FStep.plain rfl fun a w hS hE => OpTo.pick true rfl (hE 88 (by kernel_rfl)) ⟨dOf.of 92 rfl (hE 91 (by kernel_rfl)), hS⟩) ?_
    refine FSteps.cons (FStep.plain rfl fun a w hS hE => OpTo.move rfl ⟨dOf.of 93 rfl (hE 92 (by kernel_rfl)), hS⟩) ?_
    refine FSteps.cons (FStep.go 93 rfl rfl (fun _ h => h) fun a w hS hE => OpTo.row _ (.tmp 5) rfl (g3) (hE 5 (by kernel_rfl)) (cellsZ p) _ (rgp.out w hS) Try.underlying24 rfl ilp.out ⟨dOf.of 94 rfl ⟨p, Rp.out, Fp.out, rfl⟩, hS⟩) ?_
    refine FSteps.cons (FStep.go 93 rfl rfl (fun _ h => h) fun a w hS hE => OpTo.call #[a.tmps.getD 94 undef] rfl Try.func25 (by kernel_rfl) (by kernel_rfl) (args1 ..) ((zero_v (hE 94 (by kernel_rfl)) K90.out w).mono fun _ _ h => Gives.to hS 95 rfl (fun _ h => h) h)) ?_
    refine FSteps.cons (FStep.go 93 rfl rfl (fun _ h => h) fun a w hS hE => OpTo.move rfl ⟨dOf.of 96 rfl (hE 95 (by kernel_rfl)), hS⟩) ?_
    refine FSteps.cons (FStep.go 96 rfl rfl (fun _ h => h) fun a w hS hE => OpTo.move rfl ⟨dOf.of 97 rfl (hE 13 (by kernel_rfl)), hS⟩) ?_
    refine FSteps.cons (FStep.go 93 rfl rfl (fun _ h => h) fun a w hS hE => OpTo.pick true rfl (hE 96 (by kernel_rfl)) ⟨dOf.of 98 rfl (hE 97 (by kernel_rfl)), hS⟩) ?_
    refine FSteps.cons (FStep.plain rfl fun a w hS hE => OpTo.pick false rfl (hE 93 (by kernel_rfl)) ⟨dOf.of 99 rfl (hE 98 (by kernel_rfl)), hS⟩) ?_
    refine FSteps.cons (FStep.plain rfl fun a w hS hE => OpTo.eqB Try.underlying4 false false rfl (hE 86 (by kernel_rfl)) (hE 99 (by kernel_rfl)) ⟨dOf.of 100 rfl (Eq.refl (Value.bool true)), hS⟩) ?_
    refine FSteps.cons (FStep.plain rfl fun a w hS hE => OpTo.move rfl ⟨dOf.of 101 rfl (hE 100 (by kernel_rfl)), hS⟩) ?_
    refine FSteps.cons (FStep.go 101 rfl rfl (fun _ h => h) fun a w hS hE => OpTo.move rfl ⟨dOf.of 102 rfl (hE 13 (by kernel_rfl)), hS⟩) ?_
    refine FSteps.cons (FStep.go 101 rfl rfl (fun _ h => h) fun a w hS hE => OpTo.not false rfl (hE 102 (by kernel_rfl)) ⟨dOf.of 103 rfl (Eq.refl (Value.bool true)), hS⟩) ?_
    refine FSteps.cons (FStep.go 101 rfl rfl (fun _ h => h) fun a w hS hE => OpTo.move rfl ⟨dOf.of 104 rfl (hE 103 (by kernel_rfl)), hS⟩) ?_
    refine FSteps.cons (FStep.no 104 rfl rfl (fun _ h => h) (dOf.of 105 rfl rfl)) ?_
    refine FSteps.cons (FStep.no 104 rfl rfl (fun _ h => h) (dOf.of 106 rfl rfl)) ?_
    refine FSteps.cons (FStep.no 104 rfl rfl (fun _ h => h) (dOf.of 107 rfl rfl)) ?_
    refine FSteps.cons (FStep.no 104 rfl rfl (fun _ h => h) (dOf.of 108 rfl rfl)) ?_
    refine FSteps.cons (FStep.no 104 rfl rfl (fun _ h => h) (dOf.of 109 rfl rfl)) ?_
    refine FSteps.cons (FStep.no 104 rfl rfl (fun _ h => h) (dOf.of 110 rfl rfl)) ?_
    refine FSteps.cons (FStep.noU 110 rfl rfl (fun _ h => h) (dOf.of 111 rfl rfl)) ?_
    refine FSteps.cons (FStep.noU 110 rfl rfl (fun _ h => h) (dOf.of 112 rfl rfl)) ?_
    refine FSteps.cons (FStep.noU 110 rfl rfl (fun _ h => h) (dOf.of 113 rfl rfl)) ?_
    refine FSteps.cons (FStep.no 104 rfl rfl (fun _ h => h) (dOf.of 114 rfl rfl)) ?_
    refine FSteps.cons (FStep.go 101 rfl rfl (fun _ h => h) fun a w hS hE => OpTo.pick true rfl (hE 104 (by kernel_rfl)) ⟨dOf.of 115 rfl (Eq.refl (Value.bool true)), hS⟩) ?_
    refine FSteps.cons (FStep.plain rfl fun a w hS hE => OpTo.pick true rfl (hE 101 (by kernel_rfl)) ⟨dOf.of 116 rfl (hE 115 (by kernel_rfl)), hS⟩) ?_
    refine FSteps.cons (FStep.plain rfl fun a w hS hE => OpTo.move rfl ⟨dOf.of 117 rfl (hE 116 (by kernel_rfl)), hS⟩) ?_
    refine FSteps.cons (FStep.go 117 rfl rfl (fun _ h => h) fun a w hS hE => OpTo.call #[] rfl Try.func27 (by kernel_rfl) (by kernel_rfl) (args0 ..) ((fixed_v hfix w).mono fun _ _ h => Gives.to hS 118 rfl (fun _ h => h) h)) ?_
    refine FSteps.cons (FStep.plain rfl fun a w hS hE => OpTo.pick true rfl (hE 117 (by kernel_rfl)) ⟨dOf.of 119 rfl (hE 118 (by kernel_rfl)), hS⟩) ?_
    refine FSteps.cons (FStep.plain rfl fun a w hS hE => OpTo.assign rfl ⟨dOf.of 4 rfl (hE 119 (by kernel_rfl)), hS⟩) ?_
    exact FSteps.nil
  intro f wx hS hF
  obtain ⟨h4, -⟩ := hF
  replace h4 : f 4 = .bool true := h4
  (try unfold Act.put)
  simp only [setAll, List.setIfInBounds_toArray, List.set_cons_zero, List.set_cons_succ, h4]
  replace Bp := Lib.hid (Bp.out.touch hS (by simp))
  replace Bq := Lib.hid (Bq.out.touch hS (by simp))
  replace Bm := Lib.hid (Bm.out.touch hS (by simp))
  replace Br := Lib.hid (Br.out.touch hS (by simp))
  replace Bn := Lib.hid (Bn.out.touch hS (by simp))
  replace Bs := Lib.hid (Bs.out.touch hS (by simp))
  replace Bz := Lib.hid (Bz.out.touch hS (by simp))
  replace HT := Lib.hid (HT.out.trans hS)
  clear hS rgp rgq rgs h4
  rename World => w17
  
  go_wp2_with fail
  go_ret
  exact ⟨rfl, HT.out⟩
set_option maxRecDepth 100000 in
set_option maxHeartbeats 4000000 in
theorem fsq_tt (hfix : FixedOk) (a b : ByteArray) (w : World) (X Y : Nat) (HX : Hid (cutN a = X)) (HY : Hid (cutN b = Y)) (lX : X < PP) (lY : Y < PP) (hR : rootN (mulF X X) = X) (h0 : ¬ X = 0) (hN : isN Y = true) : Calls Try.prog 8 #[.string a, .string b] w fun e w' => e = .returned (.bool true) ∧ Touch [] w w' := by
  have hq : isN (mulF X X) = true := sq_isN lX rfl
  have NQ := Lib.hid hq
  have NM := Lib.hid (neg_isN X)
  have NY := Lib.hid hN
  have K38 := Lib.hid (show decide (rootN (mulF X X) % 2 = 1) = false from decide_eq_false (root_even _))
  have K45 := Lib.hid (show decide (mulF (rootN (mulF X X)) (rootN (mulF X X)) = mulF X X) = true from decide_eq_true (root_sq hq))
  have K51 := Lib.hid (show decide (rootN (mulF X X) = X) = true from decide_eq_true (hR))
  have K71 := Lib.hid (show decide (mulF (rootN (negF (mulF X X))) (rootN (negF (mulF X X))) = negF (mulF X X)) = true from decide_eq_true (root_sq (neg_isN X)))
  have K90 := Lib.hid (show decide (X = 0) = false from decide_eq_false (h0))
  have NB := Lib.hid (show isN (mulF Y (mulF X X)) = true by rw [mul_isN lX lY h0]; exact hN)
  have K109 := Lib.hid (show decide (mulF (rootN Y) (rootN Y) = Y) = true from decide_eq_true (root_sq hN))
  have K112 := Lib.hid (show decide (rootN Y % 2 = 1) = false from decide_eq_false (root_even _))
  clear hq hR h0 hN lX lY
  have HT := Lib.hid (Touch.refl [] w)
  go_enter Try.func8, Try.ntmps8
  go_wp2_with fail
  refine (cut_anyE a _).mono ?_
  rintro e wp1 ⟨p, hp, hfp, rfl, ht⟩
  have Rp := Lib.hid hp
  have Fp := Lib.hid (show fe p = X by rw [hfp, HX.out])
  replace HT := Lib.hid (HT.out.trans ht)
  clear hp hfp ht
  go_wp2_with fail
  refine (cut_anyE b _).mono ?_
  rintro e wq2 ⟨q, hq, hfq, rfl, ht⟩
  have Rq := Lib.hid hq
  have Fq := Lib.hid (show fe q = Y by rw [hfq, HY.out])
  replace HT := Lib.hid (HT.out.trans ht)
  clear hq hfq ht
  go_upto_region 2 with (first | (refine wpList_storeE rfl (.tmp 5) (.tmp 17) rfl (wq2.heap.size) rfl p rfl 24 _ Rp.out.len rfl (z2_0 wq2) ?_) | (refine wpList_storeE rfl (.tmp 6) (.tmp 19) rfl (wq2.heap.size + 1) rfl q rfl 24 _ Rq.out.len rfl (Blk.frow (z2_1 wq2) (by omega) _) ?_))
  obtain ⟨bp, bq, bt⟩ := boxed2 wq2 p q
  obtain ⟨w3, hw3⟩ : ∃ w3, w3 = ((((wq2.alloc (.cells #[.int .i64 0, .int .i64 0, .int .i64 0, .int .i64 0, .int .i64 0, .int .i64 0, .int .i64 0, .int .i64 0, .int .i64 0, .int .i64 0, .int .i64 0, .int .i64 0, .int .i64 0, .int .i64 0, .int .i64 0, .int .i64 0] 24)).alloc (.cells #[.int .i64 0, .int .i64 0, .int .i64 0, .int .i64 0, .int .i64 0, .int .i64 0, .int .i64 0, .int .i64 0, .int .i64 0, .int .i64 0, .int .i64 0, .int .i64 0, .int .i64 0, .int .i64 0, .int .i64 0, .int .i64 0] 24)).setRow (wq2.heap.size) (cellsZ p).toArray).setRow (wq2.heap.size + 1) (cellsZ q).toArray) := ⟨_, rfl⟩
  obtain ⟨g3, hg⟩ : ∃ g3, g3 = wq2.heap.size := ⟨_, rfl⟩
  rw [← hw3, ← hg] at bp bq
  rw [← hw3] at bt ⊢
  rw [← hg]
  replace HT := Lib.hid (HT.out.trans bt)
  have Bp := Lib.hid bp
  have ilp := Lib.hid (infoL Rp.out)
  have Bq := Lib.hid bq
  have ilq := Lib.hid (infoL Rq.out)
  clear bp bq bt hw3 hg
  go_wp2_with (first | (refine wpList_loadE rfl (.tmp 5) rfl (g3) rfl _ p Rp.out.len Bp.out ?_) | (refine wpList_loadE rfl (.tmp 6) rfl (g3 + 1) rfl _ q Rq.out.len Bq.out ?_))
  refine (mul_any p p Rp.out Rp.out _).mono ?_
  rintro e wm4 ⟨m, hm, hfm, rfl, ht⟩
  have Rm := Lib.hid hm
  have Fm := Lib.hid (show fe m = mulF X X by rw [hfm, Fp.out])
  replace Bp := Lib.hid (Bp.out.touch ht (by simp))
  replace Bq := Lib.hid (Bq.out.touch ht (by simp))
  replace HT := Lib.hid (HT.out.trans ht)
  clear hm hfm ht
  go_upto_region 3 with (first | (refine wpList_storeE rfl (.tmp 7) (.tmp 22) rfl (wm4.heap.size) rfl m rfl 24 _ Rm.out.len rfl (z1_0 wm4) ?_))
  obtain ⟨bm, bt⟩ := boxed1 wm4 m
  obtain ⟨w5, hw5⟩ : ∃ w5, w5 = ((wm4.alloc (.cells #[.int .i64 0, .int .i64 0, .int .i64 0, .int .i64 0, .int .i64 0, .int .i64 0, .int .i64 0, .int .i64 0, .int .i64 0, .int .i64 0, .int .i64 0, .int .i64 0, .int .i64 0, .int .i64 0, .int .i64 0, .int .i64 0] 24)).setRow (wm4.heap.size) (cellsZ m).toArray) := ⟨_, rfl⟩
  obtain ⟨g5, hg⟩ : ∃ g5, g5 = wm4.heap.size := ⟨_, rfl⟩
  rw [← hw5, ← hg] at bm
  rw [← hw5] at bt ⊢
  rw [← hg]
  replace Bp := Lib.hid (Bp.out.touch bt (by simp))
  replace Bq := Lib.hid (Bq.out.touch bt (by simp))
  replace HT := Lib.hid (HT.out.trans bt)
  have Bm := Lib.hid bm
  have ilm := Lib.hid (infoL Rm.out)
  clear bm bt hw5 hg
  go_wp2_with (first | (refine wpList_loadE rfl (.tmp 5) rfl (g3) rfl _ p Rp.out.len Bp.out ?_) | (refine wpList_loadE rfl (.tmp 6) rfl (g3 + 1) rfl _ q Rq.out.len Bq.out ?_) | (refine wpList_loadE rfl (.tmp 7) rfl (g5) rfl _ m Rm.out.len Bm.out ?_))
  refine (root_b (b := true) Rm.out (by rw [Fm.out]; exact NQ.out) _).mono ?_
  rintro e wr6 ⟨r, hr, hfr, rfl, ht⟩
  have Rr := Lib.hid hr
  have Fr := Lib.hid (show fe r = rootN (mulF X X) by rw [hfr, Fm.out])
  replace Bp := Lib.hid (Bp.out.touch ht (by simp))
  replace Bq := Lib.hid (Bq.out.touch ht (by simp))
  replace Bm := Lib.hid (Bm.out.touch ht (by simp))
  replace HT := Lib.hid (HT.out.trans ht)
  clear hr hfr ht
  go_upto_region 4 with (first | (refine wpList_storeE rfl (.tmp 8) (.tmp 26) rfl (wr6.heap.size) rfl r rfl 24 _ Rr.out.len rfl (z1_0 wr6) ?_))
  obtain ⟨br, bt⟩ := boxed1 wr6 r
  obtain ⟨w7, hw7⟩ : ∃ w7, w7 = ((wr6.alloc (.cells #[.int .i64 0, .int .i64 0, .int .i64 0, .int .i64 0, .int .i64 0, .int .i64 0, .int .i64 0, .int .i64 0, .int .i64 0, .int .i64 0, .int .i64 0, .int .i64 0, .int .i64 0, .int .i64 0, .int .i64 0, .int .i64 0] 24)).setRow (wr6.heap.size) (cellsZ r).toArray) := ⟨_, rfl⟩
  obtain ⟨g7, hg⟩ : ∃ g7, g7 = wr6.heap.size := ⟨_, rfl⟩
  rw [← hw7, ← hg] at br
  rw [← hw7] at bt ⊢
  rw [← hg]
  replace Bp := Lib.hid (Bp.out.touch bt (by simp))
  replace Bq := Lib.hid (Bq.out.touch bt (by simp))
  replace Bm := Lib.hid (Bm.out.touch bt (by simp))
  replace HT := Lib.hid (HT.out.trans bt)
  have Br := Lib.hid br
  have ilr := Lib.hid (infoL Rr.out)
  clear br bt hw7 hg
  go_wp2_with (first | (refine wpList_loadE rfl (.tmp 5) rfl (g3) rfl _ p Rp.out.len Bp.out ?_) | (refine wpList_loadE rfl (.tmp 6) rfl (g3 + 1) rfl _ q Rq.out.len Bq.out ?_) | (refine wpList_loadE rfl (.tmp 7) rfl (g5) rfl _ m Rm.out.len Bm.out ?_) | (refine wpList_loadE rfl (.tmp 8) rfl (g7) rfl _ r Rr.out.len Br.out ?_))
  refine (neg_anyE m Rm.out _).mono ?_
  rintro e wv8 ⟨v, hv, hfv, rfl, ht⟩
  have Rv := Lib.hid hv
  have Fv := Lib.hid (show fe v = negF (mulF X X) by rw [hfv, Fm.out])
  replace Bp := Lib.hid (Bp.out.touch ht (by simp))
  replace Bq := Lib.hid (Bq.out.touch ht (by simp))
  replace Bm := Lib.hid (Bm.out.touch ht (by simp))
  replace Br := Lib.hid (Br.out.touch ht (by simp))
  replace HT := Lib.hid (HT.out.trans ht)
  clear hv hfv ht
  go_wp2_with (first | (refine wpList_loadE rfl (.tmp 5) rfl (g3) rfl _ p Rp.out.len Bp.out ?_) | (refine wpList_loadE rfl (.tmp 6) rfl (g3 + 1) rfl _ q Rq.out.len Bq.out ?_) | (refine wpList_loadE rfl (.tmp 7) rfl (g5) rfl _ m Rm.out.len Bm.out ?_) | (refine wpList_loadE rfl (.tmp 8) rfl (g7) rfl _ r Rr.out.len Br.out ?_))
  refine (root_b (b := true) Rv.out (by rw [Fv.out]; exact NM.out) _).mono ?_
  rintro e wn9 ⟨n, hn, hfn, rfl, ht⟩
  have Rn := Lib.hid hn
  have Fn := Lib.hid (show fe n = rootN (negF (mulF X X)) by rw [hfn, Fv.out])
  replace Bp := Lib.hid (Bp.out.touch ht (by simp))
  replace Bq := Lib.hid (Bq.out.touch ht (by simp))
  replace Bm := Lib.hid (Bm.out.touch ht (by simp))
  replace Br := Lib.hid (Br.out.touch ht (by simp))
  replace HT := Lib.hid (HT.out.trans ht)
  clear hn hfn ht
  go_upto_region 5 with (first | (refine wpList_storeE rfl (.tmp 10) (.tmp 32) rfl (wn9.heap.size) rfl n rfl 24 _ Rn.out.len rfl (z1_0 wn9) ?_))
  obtain ⟨bn, bt⟩ := boxed1 wn9 n
  obtain ⟨w10, hw10⟩ : ∃ w10, w10 = ((wn9.alloc (.cells #[.int .i64 0, .int .i64 0, .int .i64 0, .int .i64 0, .int .i64 0, .int .i64 0, .int .i64 0, .int .i64 0, .int .i64 0, .int .i64 0, .int .i64 0, .int .i64 0, .int .i64 0, .int .i64 0, .int .i64 0, .int .i64 0] 24)).setRow (wn9.heap.size) (cellsZ n).toArray) := ⟨_, rfl⟩
  obtain ⟨g10, hg⟩ : ∃ g10, g10 = wn9.heap.size := ⟨_, rfl⟩
  rw [← hw10, ← hg] at bn
  rw [← hw10] at bt ⊢
  rw [← hg]
  replace Bp := Lib.hid (Bp.out.touch bt (by simp))
  replace Bq := Lib.hid (Bq.out.touch bt (by simp))
  replace Bm := Lib.hid (Bm.out.touch bt (by simp))
  replace Br := Lib.hid (Br.out.touch bt (by simp))
  replace HT := Lib.hid (HT.out.trans bt)
  have Bn := Lib.hid bn
  have iln := Lib.hid (infoL Rn.out)
  clear bn bt hw10 hg
  have rgp := Lib.hid (range_far Bp.out)
  have rgm := Lib.hid (range_far Bm.out)
  have rgr := Lib.hid (range_far Br.out)
  have rgn := Lib.hid (range_far Bn.out)
  refine wp_region_flow (by kernel_rfl) (fun W => Touch [] w10 W) (look [(5, isP (g3)), (7, isP (g5)), (8, isP (g7)), (9, isB true), (10, isP (g10)), (11, isB true), (34, isB true), (35, isB false), (36, isB false), (37, EV (rootN (mulF X X))), (38, isB false), (39, isB false), (40, isB false), (41, EV (rootN (mulF X X))), (42, EV (rootN (mulF X X))), (43, EV (mulF (rootN (mulF X X)) (rootN (mulF X X)))), (44, EV (mulF X X)), (45, isB true), (46, isB false), (47, isB false), (48, isB false), (49, EV (rootN (mulF X X))), (50, EV (X)), (51, isB true), (52, isB false), (53, isB false), (54, isU), (55, isU), (56, isU), (57, isU), (58, isU), (59, isB false), (60, isB false), (61, isB false), (62, isB true), (63, isB false), (64, isB false), (65, isB false), (66, EV (rootN (negF (mulF X X)))), (67, EV (rootN (negF (mulF X X)))), (68, EV (mulF (rootN (negF (mulF X X))) (rootN (negF (mulF X X))))), (69, EV (mulF X X)), (70, EV (negF (mulF X X))), (71, isB true), (72, isB false), (73, isB false)]) [5, 7, 8, 9, 10, 11] [34, 35, 36, 37, 38, 39, 40, 41, 42, 43, 44, 45, 46, 47, 48, 49, 50, 51, 52, 53, 54, 55, 56, 57, 58, 59, 60, 61, 62, 63, 64, 65, 66, 67, 68, 69, 70, 71, 72, 73] [73] (by kernel_rfl) (by kernel_rfl) (by kernel_rfl) (by kernel_rfl) (by first | exact (Touch.refl _ _).drew | assumption) ⟨rfl, rfl, rfl, rfl, rfl, rfl, trivial⟩ ?_ ?_
  · refine FSteps.cons (FStep.plain rfl fun a w hS hE => OpTo.move rfl ⟨dOf.of 34 rfl (hE 9 (by kernel_rfl)), hS⟩) ?_
    refine FSteps.cons (FStep.plain rfl fun a w hS hE => OpTo.not true rfl (hE 34 (by kernel_rfl)) ⟨dOf.of 35 rfl (Eq.refl (Value.bool false)), hS⟩) ?_
    refine FSteps.cons (FStep.plain rfl fun a w hS hE => OpTo.move rfl ⟨dOf.of 36 rfl (hE 35 (by kernel_rfl)), hS⟩) ?_
    refine FSteps.cons (FStep.go 36 rfl rfl (fun _ h => h) fun a w hS hE => OpTo.row _ (.tmp 8) rfl (g7) (hE 8 (by kernel_rfl)) (cellsZ r) _ (rgr.out w hS) Try.underlying24 rfl ilr.out ⟨dOf.of 37 rfl ⟨r, Rr.out, Fr.out, rfl⟩, hS⟩) ?_
    refine FSteps.cons (FStep.go 36 rfl rfl (fun _ h => h) fun a w hS hE => OpTo.call #[a.tmps.getD 37 undef] rfl Try.func23 (by kernel_rfl) (by kernel_rfl) (args1 ..) ((odd_v (hE 37 (by kernel_rfl)) K38.out w).mono fun _ _ h => Gives.to hS 38 rfl (fun _ h => h) h)) ?_
    refine FSteps.cons (FStep.plain rfl fun a w hS hE => OpTo.pick false rfl (hE 36 (by kernel_rfl)) ⟨dOf.of 39 rfl (hE 38 (by kernel_rfl)), hS⟩) ?_
    refine FSteps.cons (FStep.plain rfl fun a w hS hE => OpTo.move rfl ⟨dOf.of 40 rfl (hE 39 (by kernel_rfl)), hS⟩) ?_
    refine FSteps.cons (FStep.go 40 rfl rfl (fun _ h => h) fun a w hS hE => OpTo.row _ (.tmp 8) rfl (g7) (hE 8 (by kernel_rfl)) (cellsZ r) _ (rgr.out w hS) Try.underlying24 rfl ilr.out ⟨dOf.of 41 rfl ⟨r, Rr.out, Fr.out, rfl⟩, hS⟩) ?_
    refine FSteps.cons (FStep.go 40 rfl rfl (fun _ h => h) fun a w hS hE => OpTo.row _ (.tmp 8) rfl (g7) (hE 8 (by kernel_rfl)) (cellsZ r) _ (rgr.out w hS) Try.underlying24 rfl ilr.out ⟨dOf.of 42 rfl ⟨r, Rr.out, Fr.out, rfl⟩, hS⟩) ?_
    refine FSteps.cons (FStep.go 40 rfl rfl (fun _ h => h) fun a w hS hE => OpTo.call #[a.tmps.getD 41 undef, a.tmps.getD 42 undef] rfl Try.func18 (by kernel_rfl) (by kernel_rfl) (args2 ..) ((mul_v (hE 41 (by kernel_rfl)) (hE 42 (by kernel_rfl)) w).mono fun _ _ h => Gives.to hS 43 rfl (fun _ h => h) h)) ?_
    refine FSteps.cons (FStep.go 40 rfl rfl (fun _ h => h) fun a w hS hE => OpTo.row _ (.tmp 7) rfl (g5) (hE 7 (by kernel_rfl)) (cellsZ m) _ (rgm.out w hS) Try.underlying24 rfl ilm.out ⟨dOf.of 44 rfl ⟨m, Rm.out, Fm.out, rfl⟩, hS⟩) ?_
    refine FSteps.cons (FStep.go 40 rfl rfl (fun _ h => h) fun a w hS hE => OpTo.call #[a.tmps.getD 43 undef, a.tmps.getD 44 undef] rfl Try.func22 (by kernel_rfl) (by kernel_rfl) (args2 ..) ((same_v (hE 43 (by kernel_rfl)) (hE 44 (by kernel_rfl)) K45.out w).mono fun _ _ h => Gives.to hS 45 rfl (fun _ h => h) h)) ?_
    refine FSteps.cons (FStep.go 40 rfl rfl (fun _ h => h) fun a w hS hE => OpTo.not true rfl (hE 45 (by kernel_rfl)) ⟨dOf.of 46 rfl (Eq.refl (Value.bool false)), hS⟩) ?_
    refine FSteps.cons (FStep.plain rfl fun a w hS hE => OpTo.pick false rfl (hE 40 (by kernel_rfl)) ⟨dOf.of 47 rfl (hE 46 (by kernel_rfl)), hS⟩) ?_
    refine FSteps.cons (FStep.plain rfl fun a w hS hE => OpTo.move rfl ⟨dOf.of 48 rfl (hE 47 (by kernel_rfl)), hS⟩) ?_
    refine FSteps.cons (FStep.go 48 rfl rfl (fun _ h => h) fun a w hS hE => OpTo.row _ (.tmp 8) rfl (g7) (hE 8 (by kernel_rfl)) (cellsZ r) _ (rgr.out w hS) Try.underlying24 rfl ilr.out ⟨dOf.of 49 rfl ⟨r, Rr.out, Fr.out, rfl⟩, hS⟩) ?_
    refine FSteps.cons (FStep.go 48 rfl rfl (fun _ h => h) fun a w hS hE => OpTo.row _ (.tmp 5) rfl (g3) (hE 5 (by kernel_rfl)) (cellsZ p) _ (rgp.out w hS) Try.underlying24 rfl ilp.out ⟨dOf.of 50 rfl ⟨p, Rp.out, Fp.out, rfl⟩, hS⟩) ?_
    refine FSteps.cons (FStep.go 48 rfl rfl (fun _ h => h) fun a w hS hE => OpTo.call #[a.tmps.getD 49 undef, a.tmps.getD 50 undef] rfl Try.func22 (by kernel_rfl) (by kernel_rfl) (args2 ..) ((same_v (hE 49 (by kernel_rfl)) (hE 50 (by kernel_rfl)) K51.out w).mono fun _ _ h => Gives.to hS 51 rfl (fun _ h => h) h)) ?_
    refine FSteps.cons (FStep.go 48 rfl rfl (fun _ h => h) fun a w hS hE => OpTo.not true rfl (hE 51 (by kernel_rfl)) ⟨dOf.of 52 rfl (Eq.refl (Value.bool false)), hS⟩) ?_
    refine FSteps.cons (FStep.go 48 rfl rfl (fun _ h => h) fun a w hS hE => OpTo.move rfl ⟨dOf.of 53 rfl (hE 52 (by kernel_rfl)), hS⟩) ?_
    refine FSteps.cons (FStep.no 53 rfl rfl (fun _ h => h) (dOf.of 54 rfl rfl)) ?_
    refine FSteps.cons (FStep.no 53 rfl rfl (fun _ h => h) (dOf.of 55 rfl rfl)) ?_
    refine FSteps.cons (FStep.no 53 rfl rfl (fun _ h => h) (dOf.of 56 rfl rfl)) ?_
    refine FSteps.cons (FStep.no 53 rfl rfl (fun _ h => h) (dOf.of 57 rfl rfl)) ?_
    refine FSteps.cons (FStep.no 53 rfl rfl (fun _ h => h) (dOf.of 58 rfl rfl)) ?_
    refine FSteps.cons (FStep.go 48 rfl rfl (fun _ h => h) fun a w hS hE => OpTo.pick false rfl (hE 53 (by kernel_rfl)) ⟨dOf.of 59 rfl (Eq.refl (Value.bool false)), hS⟩) ?_
    refine FSteps.cons (FStep.plain rfl fun a w hS hE => OpTo.pick false rfl (hE 48 (by kernel_rfl)) ⟨dOf.of 60 rfl (hE 59 (by kernel_rfl)), hS⟩) ?_
    refine FSteps.cons (FStep.plain rfl fun a w hS hE => OpTo.move rfl ⟨dOf.of 61 rfl (hE 60 (by kernel_rfl)), hS⟩) ?_
    refine FSteps.cons (FStep.go 61 rfl rfl (fun _ h => h) fun a w hS hE => OpTo.move rfl ⟨dOf.of 62 rfl (hE 11 (by kernel_rfl)), hS⟩) ?_
    refine FSteps.cons (FStep.go 61 rfl rfl (fun _ h => h) fun a w hS hE => OpTo.not true rfl (hE 62 (by kernel_rfl)) ⟨dOf.of 63 rfl (Eq.refl (Value.bool false)), hS⟩) ?_
    refine FSteps.cons (FStep.plain rfl fun a w hS hE => OpTo.pick false rfl (hE 61 (by kernel_rfl)) ⟨dOf.of 64 rfl (hE 63 (by kernel_rfl)), hS⟩) ?_
    refine FSteps.cons (FStep.plain rfl fun a w hS hE => OpTo.move rfl ⟨dOf.of 65 rfl (hE 64 (by kernel_rfl)), hS⟩) ?_
    refine FSteps.cons (FStep.go 65 rfl rfl (fun _ h => h) fun a w hS hE => OpTo.row _ (.tmp 10) rfl (g10) (hE 10 (by kernel_rfl)) (cellsZ n) _ (rgn.out w hS) Try.underlying24 rfl iln.out ⟨dOf.of 66 rfl ⟨n, Rn.out, Fn.out, rfl⟩, hS⟩) ?_
    refine FSteps.cons (FStep.go 65 rfl rfl (fun _ h => h) fun a w hS hE => OpTo.row _ (.tmp 10) rfl (g10) (hE 10 (by kernel_rfl)) (cellsZ n) _ (rgn.out w hS) Try.underlying24 rfl iln.out ⟨dOf.of 67 rfl ⟨n, Rn.out, Fn.out, rfl⟩, hS⟩) ?_
    refine FSteps.cons (FStep.go 65 rfl rfl (fun _ h => h) fun a w hS hE => OpTo.call #[a.tmps.getD 66 undef, a.tmps.getD 67 undef] rfl Try.func18 (by kernel_rfl) (by kernel_rfl) (args2 ..) ((mul_v (hE 66 (by kernel_rfl)) (hE 67 (by kernel_rfl)) w).mono fun _ _ h => Gives.to hS 68 rfl (fun _ h => h) h)) ?_
    refine FSteps.cons (FStep.go 65 rfl rfl (fun _ h => h) fun a w hS hE => OpTo.row _ (.tmp 7) rfl (g5) (hE 7 (by kernel_rfl)) (cellsZ m) _ (rgm.out w hS) Try.underlying24 rfl ilm.out ⟨dOf.of 69 rfl ⟨m, Rm.out, Fm.out, rfl⟩, hS⟩) ?_
    refine FSteps.cons (FStep.go 65 rfl rfl (fun _ h => h) fun a w hS hE => OpTo.call #[a.tmps.getD 69 undef] rfl Try.func20 (by kernel_rfl) (by kernel_rfl) (args1 ..) ((neg_v (hE 69 (by kernel_rfl)) w).mono fun _ _ h => Gives.to hS 70 rfl (fun _ h => h) h)) ?_
    refine FSteps.cons (FStep.go 65 rfl rfl (fun _ h => h) fun a w hS hE => OpTo.call #[a.tmps.getD 68 undef, a.tmps.getD 70 undef] rfl Try.func22 (by kernel_rfl) (by kernel_rfl) (args2 ..) ((same_v (hE 68 (by kernel_rfl)) (hE 70 (by kernel_rfl)) K71.out w).mono fun _ _ h => Gives.to hS 71 rfl (fun _ h => h) h)) ?_
    refine FSteps.cons (FStep.go 65 rfl rfl (fun _ h => h) fun a w hS hE => OpTo.not true rfl (hE 71 (by kernel_rfl)) ⟨dOf.of 72 rfl (Eq.refl (Value.bool false)), hS⟩) ?_
    refine FSteps.cons (FStep.plain rfl fun a w hS hE => OpTo.pick false rfl (hE 65 (by kernel_rfl)) ⟨dOf.of 73 rfl (hE 72 (by kernel_rfl)), hS⟩) ?_
    exact FSteps.nil
  intro f wx hS hF
  obtain ⟨h73, -⟩ := hF
  replace h73 : f 73 = .bool false := h73
  (try unfold Act.put)
  simp only [setAll, List.setIfInBounds_toArray, List.set_cons_zero, List.set_cons_succ, h73]
  replace Bp := Lib.hid (Bp.out.touch hS (by simp))
  replace Bq := Lib.hid (Bq.out.touch hS (by simp))
  replace Bm := Lib.hid (Bm.out.touch hS (by simp))
  replace Br := Lib.hid (Br.out.touch hS (by simp))
  replace Bn := Lib.hid (Bn.out.touch hS (by simp))
  replace HT := Lib.hid (HT.out.trans hS)
  clear hS rgp rgm rgr rgn h73
  rename World => w11
  go_upto_region 7 with fail
  go_wp2_with (first | (refine wpList_loadE rfl (.tmp 5) rfl (g3) rfl _ p Rp.out.len Bp.out ?_) | (refine wpList_loadE rfl (.tmp 6) rfl (g3 + 1) rfl _ q Rq.out.len Bq.out ?_) | (refine wpList_loadE rfl (.tmp 7) rfl (g5) rfl _ m Rm.out.len Bm.out ?_) | (refine wpList_loadE rfl (.tmp 8) rfl (g7) rfl _ r Rr.out.len Br.out ?_) | (refine wpList_loadE rfl (.tmp 10) rfl (g10) rfl _ n Rn.out.len Bn.out ?_))
  refine (root_b (b := true) Rq.out (by rw [Fq.out]; exact NY.out) _).mono ?_
  rintro e ws12 ⟨s, hs, hfs, rfl, ht⟩
  have Rs := Lib.hid hs
  have Fs := Lib.hid (show fe s = rootN Y by rw [hfs, Fq.out])
  replace Bp := Lib.hid (Bp.out.touch ht (by simp))
  replace Bq := Lib.hid (Bq.out.touch ht (by simp))
  replace Bm := Lib.hid (Bm.out.touch ht (by simp))
  replace Br := Lib.hid (Br.out.touch ht (by simp))
  replace Bn := Lib.hid (Bn.out.touch ht (by simp))
  replace HT := Lib.hid (HT.out.trans ht)
  clear hs hfs ht
  go_upto_region 8 with (first | (refine wpList_storeE rfl (.tmp 12) (.tmp 77) rfl (ws12.heap.size) rfl s rfl 24 _ Rs.out.len rfl (z1_0 ws12) ?_))
  obtain ⟨bs, bt⟩ := boxed1 ws12 s
  obtain ⟨w13, hw13⟩ : ∃ w13, w13 = ((ws12.alloc (.cells #[.int .i64 0, .int .i64 0, .int .i64 0, .int .i64 0, .int .i64 0, .int .i64 0, .int .i64 0, .int .i64 0, .int .i64 0, .int .i64 0, .int .i64 0, .int .i64 0, .int .i64 0, .int .i64 0, .int .i64 0, .int .i64 0] 24)).setRow (ws12.heap.size) (cellsZ s).toArray) := ⟨_, rfl⟩
  obtain ⟨g13, hg⟩ : ∃ g13, g13 = ws12.heap.size := ⟨_, rfl⟩
  rw [← hw13, ← hg] at bs
  rw [← hw13] at bt ⊢
  rw [← hg]
  replace Bp := Lib.hid (Bp.out.touch bt (by simp))
  replace Bq := Lib.hid (Bq.out.touch bt (by simp))
  replace Bm := Lib.hid (Bm.out.touch bt (by simp))
  replace Br := Lib.hid (Br.out.touch bt (by simp))
  replace Bn := Lib.hid (Bn.out.touch bt (by simp))
  replace HT := Lib.hid (HT.out.trans bt)
  have Bs := Lib.hid bs
  have ils := Lib.hid (infoL Rs.out)
  clear bs bt hw13 hg
  go_wp2_with (first | (refine wpList_loadE rfl (.tmp 5) rfl (g3) rfl _ p Rp.out.len Bp.out ?_) | (refine wpList_loadE rfl (.tmp 6) rfl (g3 + 1) rfl _ q Rq.out.len Bq.out ?_) | (refine wpList_loadE rfl (.tmp 7) rfl (g5) rfl _ m Rm.out.len Bm.out ?_) | (refine wpList_loadE rfl (.tmp 8) rfl (g7) rfl _ r Rr.out.len Br.out ?_) | (refine wpList_loadE rfl (.tmp 10) rfl (g10) rfl _ n Rn.out.len Bn.out ?_) | (refine wpList_loadE rfl (.tmp 12) rfl (g13) rfl _ s Rs.out.len Bs.out ?_))
  refine (mul_any q m Rq.out Rm.out _).mono ?_
  rintro e wu14 ⟨u, hu, hfu, rfl, ht⟩
  have Ru := Lib.hid hu
  have Fu := Lib.hid (show fe u = mulF Y (mulF X X) by rw [hfu, Fq.out, Fm.out])
  replace Bp := Lib.hid (Bp.out.touch ht (by simp))
  replace Bq := Lib.hid (Bq.out.touch ht (by simp))
  replace Bm := Lib.hid (Bm.out.touch ht (by simp))
  replace Br := Lib.hid (Br.out.touch ht (by simp))
  replace Bn := Lib.hid (Bn.out.touch ht (by simp))
  replace Bs := Lib.hid (Bs.out.touch ht (by simp))
  replace HT := Lib.hid (HT.out.trans ht)
  clear hu hfu ht
  go_wp2_with (first | (refine wpList_loadE rfl (.tmp 5) rfl (g3) rfl _ p Rp.out.len Bp.out ?_) | (refine wpList_loadE rfl (.tmp 6) rfl (g3 + 1) rfl _ q Rq.out.len Bq.out ?_) | (refine wpList_loadE rfl (.tmp 7) rfl (g5) rfl _ m Rm.out.len Bm.out ?_) | (refine wpList_loadE rfl (.tmp 8) rfl (g7) rfl _ r Rr.out.len Br.out ?_) | (refine wpList_loadE rfl (.tmp 10) rfl (g10) rfl _ n Rn.out.len Bn.out ?_) | (refine wpList_loadE rfl (.tmp 12) rfl (g13) rfl _ s Rs.out.len Bs.out ?_))
  refine (root_b (b := true) Ru.out (by rw [Fu.out]; exact NB.out) _).mono ?_
  rintro e wz15 ⟨z, hz, hfz, rfl, ht⟩
  have Rz := Lib.hid hz
  have Fz := Lib.hid (show fe z = rootN (mulF Y (mulF X X)) by rw [hfz, Fu.out])
  replace Bp := Lib.hid (Bp.out.touch ht (by simp))
  replace Bq := Lib.hid (Bq.out.touch ht (by simp))
  replace Bm := Lib.hid (Bm.out.touch ht (by simp))
  replace Br := Lib.hid (Br.out.touch ht (by simp))
  replace Bn := Lib.hid (Bn.out.touch ht (by simp))
  replace Bs := Lib.hid (Bs.out.touch ht (by simp))
  replace HT := Lib.hid (HT.out.trans ht)
  clear hz hfz ht
  go_upto_region 9 with (first | (refine wpList_storeE rfl (.tmp 14) (.tmp 84) rfl (wz15.heap.size) rfl z rfl 24 _ Rz.out.len rfl (z1_0 wz15) ?_))
  obtain ⟨bz, bt⟩ := boxed1 wz15 z
  obtain ⟨w16, hw16⟩ : ∃ w16, w16 = ((wz15.alloc (.cells #[.int .i64 0, .int .i64 0, .int .i64 0, .int .i64 0, .int .i64 0, .int .i64 0, .int .i64 0, .int .i64 0, .int .i64 0, .int .i64 0, .int .i64 0, .int .i64 0, .int .i64 0, .int .i64 0, .int .i64 0, .int .i64 0] 24)).setRow (wz15.heap.size) (cellsZ z).toArray) := ⟨_, rfl⟩
  obtain ⟨g16, hg⟩ : ∃ g16, g16 = wz15.heap.size := ⟨_, rfl⟩
  rw [← hw16, ← hg] at bz
  rw [← hw16] at bt ⊢
  rw [← hg]
  replace Bp := Lib.hid (Bp.out.touch bt (by simp))
  replace Bq := Lib.hid (Bq.out.touch bt (by simp))
  replace Bm := Lib.hid (Bm.out.touch bt (by simp))
  replace Br := Lib.hid (Br.out.touch bt (by simp))
  replace Bn := Lib.hid (Bn.out.touch bt (by simp))
  replace Bs := Lib.hid (Bs.out.touch bt (by simp))
  replace HT := Lib.hid (HT.out.trans bt)
  have Bz := Lib.hid bz
  have ilz := Lib.hid (infoL Rz.out)
  clear bz bt hw16 hg
  have rgp := Lib.hid (range_far Bp.out)
  have rgq := Lib.hid (range_far Bq.out)
  have rgs := Lib.hid (range_far Bs.out)
  refine wp_region_flow (by kernel_rfl) (fun W => Touch [] w16 W) (look [(4, isB true), (5, isP (g3)), (6, isP (g3 + 1)), (12, isP (g13)), (13, isB true), (15, isB true), (86, isB true), (87, isB true), (88, isB true), (89, EV (X)), (90, isB false), (91, isB true), (92, isB true), (93, isB true), (94, isU), (95, isU), (96, isU), (97, isU), (98, isU), (99, isB true), (100, isB true), (101, isB true), (102, isB true), (103, isB false), (104, isB false), (105, EV (rootN Y)), (106, EV (rootN Y)), (107, EV (mulF (rootN Y) (rootN Y))), (108, EV (Y)), (109, isB true), (110, isB true), (111, EV (rootN Y)), (112, isB false), (113, isB true), (114, isB true), (115, isB true), (116, isB true), (117, isB true), (118, isB true), (119, isB true)]) [5, 6, 12, 13, 15] [86, 87, 88, 89, 90, 91, 92, 93, 94, 95, 96, 97, 98, 99, 100, 101, 102, 103, 104, 105, 106, 107, 108, 109, 110, 111, 112, 113, 114, 115, 116, 117, 118, 119, 4] [4] (by kernel_rfl) (by kernel_rfl) (by kernel_rfl) (by kernel_rfl) (by first | exact (Touch.refl _ _).drew | assumption) ⟨rfl, rfl, rfl, rfl, rfl, trivial⟩ ?_ ?_
  · refine FSteps.cons (FStep.plain rfl fun a w hS hE => OpTo.move rfl ⟨dOf.of 86 rfl (hE 13 (by kernel_rfl)), hS⟩) ?_
    refine FSteps.cons (FStep.plain rfl fun a w hS hE => OpTo.move rfl ⟨dOf.of 87 rfl (hE 15 (by kernel_rfl)), hS⟩) ?_
    refine FSteps.cons (FStep.plain rfl fun a w hS hE => OpTo.move rfl ⟨dOf.of 88 rfl (hE 87 (by kernel_rfl)), hS⟩) ?_
    refine FSteps.cons (FStep.go 88 rfl rfl (fun _ h => h) fun a w hS hE => OpTo.row _ (.tmp 5) rfl (g3) (hE 5 (by kernel_rfl)) (cellsZ p) _ (rgp.out w hS) Try.underlying24 rfl ilp.out ⟨dOf.of 89 rfl ⟨p, Rp.out, Fp.out, rfl⟩, hS⟩) ?_
    refine FSteps.cons (FStep.go 88 rfl rfl (fun _ h => h) fun a w hS hE => OpTo.call #[a.tmps.getD 89 undef] rfl Try.func25 (by kernel_rfl) (by kernel_rfl) (args1 ..) ((zero_v (hE 89 (by kernel_rfl)) K90.out w).mono fun _ _ h => Gives.to hS 90 rfl (fun _ h => h) h)) ?_
    refine FSteps.cons (FStep.go 88 rfl rfl (fun _ h => h) fun a w hS hE => OpTo.not false rfl (hE 90 (by kernel_rfl)) ⟨dOf.of 91 rfl (Eq.refl (Value.bool true)), hS⟩) ?_
    refine FSteps.cons (FStep.plain rfl fun a w hS hE => OpTo.pick true rfl (hE 88 (by kernel_rfl)) ⟨dOf.of 92 rfl (hE 91 (by kernel_rfl)), hS⟩) ?_
    refine FSteps.cons (FStep.plain rfl fun a w hS hE => OpTo.move rfl ⟨dOf.of 93 rfl (hE 92 (by kernel_rfl)), hS⟩) ?_
    refine FSteps.cons (FStep.no 93 rfl rfl (fun _ h => h) (dOf.of 94 rfl rfl)) ?_
    refine FSteps.cons (FStep.no 93 rfl rfl (fun _ h => h) (dOf.of 95 rfl rfl)) ?_
    refine FSteps.cons (FStep.no 93 rfl rfl (fun _ h => h) (dOf.of 96 rfl rfl)) ?_
    refine FSteps.cons (FStep.noU 96 rfl rfl (fun _ h => h) (dOf.of 97 rfl rfl)) ?_
    refine FSteps.cons (FStep.no 93 rfl rfl (fun _ h => h) (dOf.of 98 rfl rfl)) ?_
    refine FSteps.cons (FStep.plain rfl fun a w hS hE => OpTo.pick true rfl (hE 93 (by kernel_rfl)) ⟨dOf.of 99 rfl (Eq.refl (Value.bool true)), hS⟩) ?_
    refine FSteps.cons (FStep.plain rfl fun a w hS hE => OpTo.eqB Try.underlying4 true true rfl (hE 86 (by kernel_rfl)) (hE 99 (by kernel_rfl)) ⟨dOf.of 100 rfl (Eq.refl (Value.bool true)), hS⟩) ?_
    refine FSteps.cons (FStep.plain rfl fun a w hS hE => OpTo.move rfl ⟨dOf.of 101 rfl (hE 100 (by kernel_rfl)), hS⟩) ?_
    refine FSteps.cons (FStep.go 101 rfl rfl (fun _ h => h) fun a w hS hE => OpTo.move rfl ⟨dOf.of 102 rfl (hE 13 (by kernel_rfl)), hS⟩) ?_
    refine FSteps.cons (FStep.go 101 rfl rfl (fun _ h => h) fun a w hS hE => OpTo.not true rfl (hE 102 (by kernel_rfl)) ⟨dOf.of 103 rfl (Eq.refl (Value.bool false)), hS⟩) ?_
    refine FSteps.cons (FStep.go 101 rfl rfl (fun _ h => h) fun a w hS hE => OpTo.move rfl ⟨dOf.of 104 rfl (hE 103 (by kernel_rfl)), hS⟩) ?_
    refine FSteps.cons (FStep.go 104 rfl rfl (fun _ h => h) fun a w hS hE => OpTo.row _ (.tmp 12) rfl (g13) (hE 12 (by kernel_rfl)) (cellsZ s) _ (rgs.out w hS) Try.underlying24 rfl ils.out ⟨dOf.of 105 rfl ⟨s, Rs.out, Fs.out, rfl⟩, hS⟩) ?_
    refine FSteps.cons (FStep.go 104 rfl rfl (fun _ h => h) fun a w hS hE => OpTo.row _ (.tmp 12) rfl (g13) (hE 12 (by kernel_rfl)) (cellsZ s) _ (rgs.out w hS) Try.underlying24 rfl ils.out ⟨dOf.of 106 rfl ⟨s, Rs.out, Fs.out, rfl⟩, hS⟩) ?_
    refine FSteps.cons (FStep.go 104 rfl rfl (fun _ h => h) fun a w hS hE => OpTo.call #[a.tmps.getD 105 undef, a.tmps.getD 106 undef] rfl Try.func18 (by kernel_rfl) (by kernel_rfl) (args2 ..) ((mul_v (hE 105 (by kernel_rfl)) (hE 106 (by kernel_rfl)) w).mono fun _ _ h => Gives.to hS 107 rfl (fun _ h => h) h)) ?_
    refine FSteps.cons (FStep.go 104 rfl rfl (fun _ h => h) fun a w hS hE => OpTo.row _ (.tmp 6) rfl (g3 + 1) (hE 6 (by kernel_rfl)) (cellsZ q) _ (rgq.out w hS) Try.underlying24 rfl ilq.out ⟨dOf.of 108 rfl ⟨q, Rq.out, Fq.out, rfl⟩, hS⟩) ?_
    refine FSteps.cons (FStep.go 104 rfl rfl (fun _ h => h) fun a w hS hE => OpTo.call #[a.tmps.getD 107 undef, a.tmps.getD 108 undef] rfl Try.func22 (by kernel_rfl) (by kernel_rfl) (args2 ..) ((same_v (hE 107 (by kernel_rfl)) (hE 108 (by kernel_rfl)) K109.out w).mono fun _ _ h => Gives.to hS 109 rfl (fun _ h => h) h)) ?_
    refine FSteps.cons (FStep.go 104 rfl rfl (fun _ h => h) fun a w hS hE => OpTo.move rfl ⟨dOf.of 110 rfl (hE 109 (by kernel_rfl)), hS⟩) ?_
    refine FSteps.cons (FStep.go 110 rfl rfl (fun _ h => h) fun a w hS hE => OpTo.row _ (.tmp 12) rfl (g13) (hE 12 (by kernel_rfl)) (cellsZ s) _ (rgs.out w hS) Try.underlying24 rfl ils.out ⟨dOf.of 111 rfl ⟨s, Rs.out, Fs.out, rfl⟩, hS⟩) ?_
    refine FSteps.cons (FStep.go 110 rfl rfl (fun _ h => h) fun a w hS hE => OpTo.call #[a.tmps.getD 111 undef] rfl Try.func23 (by kernel_rfl) (by kernel_rfl) (args1 ..) ((odd_v (hE 111 (by kernel_rfl)) K112.out w).mono fun _ _ h => Gives.to hS 112 rfl (fun _ h => h) h)) ?_
    refine FSteps.cons (FStep.go 110 rfl rfl (fun _ h => h) fun a w hS hE => OpTo.not false rfl (hE 112 (by kernel_rfl)) ⟨dOf.of 113 rfl (Eq.refl (Value.bool true)), hS⟩) ?_
    refine FSteps.cons (FStep.go 104 rfl rfl (fun _ h => h) fun a w hS hE => OpTo.pick true rfl (hE 110 (by kernel_rfl)) ⟨dOf.of 114 rfl (hE 113 (by kernel_rfl)), hS⟩) ?_
    refine FSteps.cons (FStep.go 101 rfl rfl (fun _ h => h) fun a w hS hE => OpTo.pick false rfl (hE 104 (by kernel_rfl)) ⟨dOf.of 115 rfl (hE 114 (by kernel_rfl)), hS⟩) ?_
    refine FSteps.cons (FStep.plain rfl fun a w hS hE => OpTo.pick true rfl (hE 101 (by kernel_rfl)) ⟨dOf.of 116 rfl (hE 115 (by kernel_rfl)), hS⟩) ?_
    refine FSteps.cons (FStep.plain rfl fun a w hS hE => OpTo.move rfl ⟨dOf.of 117 rfl (hE 116 (by kernel_rfl)), hS⟩) ?_
    refine FSteps.cons (FStep.go 117 rfl rfl (fun _ h => h) fun a w hS hE => OpTo.call #[] rfl Try.func27 (by kernel_rfl) (by kernel_rfl) (args0 ..) ((fixed_v hfix w).mono fun _ _ h => Gives.to hS 118 rfl (fun _ h => h) h)) ?_
    refine FSteps.cons (FStep.plain rfl fun a w hS hE => OpTo.pick true rfl (hE 117 (by kernel_rfl)) ⟨dOf.of 119 rfl (hE 118 (by kernel_rfl)), hS⟩) ?_
    refine FSteps.cons (FStep.plain rfl fun a w hS hE => OpTo.assign rfl ⟨dOf.of 4 rfl (hE 119 (by kernel_rfl)), hS⟩) ?_
    exact FSteps.nil
  intro f wx hS hF
  obtain ⟨h4, -⟩ := hF
  replace h4 : f 4 = .bool true := h4
  (try unfold Act.put)
  simp only [setAll, List.setIfInBounds_toArray, List.set_cons_zero, List.set_cons_succ, h4]
  replace Bp := Lib.hid (Bp.out.touch hS (by simp))
  replace Bq := Lib.hid (Bq.out.touch hS (by simp))
  replace Bm := Lib.hid (Bm.out.touch hS (by simp))
  replace Br := Lib.hid (Br.out.touch hS (by simp))
  replace Bn := Lib.hid (Bn.out.touch hS (by simp))
  replace Bs := Lib.hid (Bs.out.touch hS (by simp))
  replace Bz := Lib.hid (Bz.out.touch hS (by simp))
  replace HT := Lib.hid (HT.out.trans hS)
  clear hS rgp rgq rgs h4
  rename World => w17
  
  go_wp2_with fail
  go_ret
  exact ⟨rfl, HT.out⟩
set_option maxRecDepth 100000 in
set_option maxHeartbeats 4000000 in
theorem fsq_tf (hfix : FixedOk) (a b : ByteArray) (w : World) (X Y : Nat) (HX : Hid (cutN a = X)) (HY : Hid (cutN b = Y)) (lX : X < PP) (lY : Y < PP) (hR : rootN (mulF X X) = X) (h0 : ¬ X = 0) (hN : isN Y = false) : Calls Try.prog 8 #[.string a, .string b] w fun e w' => e = .returned (.bool true) ∧ Touch [] w w' := by
  have hq : isN (mulF X X) = true := sq_isN lX rfl
  have NQ := Lib.hid hq
  have NM := Lib.hid (neg_isN X)
  have NY := Lib.hid hN
  have K38 := Lib.hid (show decide (rootN (mulF X X) % 2 = 1) = false from decide_eq_false (root_even _))
  have K45 := Lib.hid (show decide (mulF (rootN (mulF X X)) (rootN (mulF X X)) = mulF X X) = true from decide_eq_true (root_sq hq))
  have K51 := Lib.hid (show decide (rootN (mulF X X) = X) = true from decide_eq_true (hR))
  have K71 := Lib.hid (show decide (mulF (rootN (negF (mulF X X))) (rootN (negF (mulF X X))) = negF (mulF X X)) = true from decide_eq_true (root_sq (neg_isN X)))
  have K90 := Lib.hid (show decide (X = 0) = false from decide_eq_false (h0))
  have NB := Lib.hid (show isN (mulF Y (mulF X X)) = false by rw [mul_isN lX lY h0]; exact hN)
  clear hq hR h0 hN lX lY
  have HT := Lib.hid (Touch.refl [] w)
  go_enter Try.func8, Try.ntmps8
  go_wp2_with fail
  refine (cut_anyE a _).mono ?_
  rintro e wp1 ⟨p, hp, hfp, rfl, ht⟩
  have Rp := Lib.hid hp
  have Fp := Lib.hid (show fe p = X by rw [hfp, HX.out])
  replace HT := Lib.hid (HT.out.trans ht)
  clear hp hfp ht
  go_wp2_with fail
  refine (cut_anyE b _).mono ?_
  rintro e wq2 ⟨q, hq, hfq, rfl, ht⟩
  have Rq := Lib.hid hq
  have Fq := Lib.hid (show fe q = Y by rw [hfq, HY.out])
  replace HT := Lib.hid (HT.out.trans ht)
  clear hq hfq ht
  go_upto_region 2 with (first | (refine wpList_storeE rfl (.tmp 5) (.tmp 17) rfl (wq2.heap.size) rfl p rfl 24 _ Rp.out.len rfl (z2_0 wq2) ?_) | (refine wpList_storeE rfl (.tmp 6) (.tmp 19) rfl (wq2.heap.size + 1) rfl q rfl 24 _ Rq.out.len rfl (Blk.frow (z2_1 wq2) (by omega) _) ?_))
  obtain ⟨bp, bq, bt⟩ := boxed2 wq2 p q
  obtain ⟨w3, hw3⟩ : ∃ w3, w3 = ((((wq2.alloc (.cells #[.int .i64 0, .int .i64 0, .int .i64 0, .int .i64 0, .int .i64 0, .int .i64 0, .int .i64 0, .int .i64 0, .int .i64 0, .int .i64 0, .int .i64 0, .int .i64 0, .int .i64 0, .int .i64 0, .int .i64 0, .int .i64 0] 24)).alloc (.cells #[.int .i64 0, .int .i64 0, .int .i64 0, .int .i64 0, .int .i64 0, .int .i64 0, .int .i64 0, .int .i64 0, .int .i64 0, .int .i64 0, .int .i64 0, .int .i64 0, .int .i64 0, .int .i64 0, .int .i64 0, .int .i64 0] 24)).setRow (wq2.heap.size) (cellsZ p).toArray).setRow (wq2.heap.size + 1) (cellsZ q).toArray) := ⟨_, rfl⟩
  obtain ⟨g3, hg⟩ : ∃ g3, g3 = wq2.heap.size := ⟨_, rfl⟩
  rw [← hw3, ← hg] at bp bq
  rw [← hw3] at bt ⊢
  rw [← hg]
  replace HT := Lib.hid (HT.out.trans bt)
  have Bp := Lib.hid bp
  have ilp := Lib.hid (infoL Rp.out)
  have Bq := Lib.hid bq
  have ilq := Lib.hid (infoL Rq.out)
  clear bp bq bt hw3 hg
  go_wp2_with (first | (refine wpList_loadE rfl (.tmp 5) rfl (g3) rfl _ p Rp.out.len Bp.out ?_) | (refine wpList_loadE rfl (.tmp 6) rfl (g3 + 1) rfl _ q Rq.out.len Bq.out ?_))
  refine (mul_any p p Rp.out Rp.out _).mono ?_
  rintro e wm4 ⟨m, hm, hfm, rfl, ht⟩
  have Rm := Lib.hid hm
  have Fm := Lib.hid (show fe m = mulF X X by rw [hfm, Fp.out])
  replace Bp := Lib.hid (Bp.out.touch ht (by simp))
  replace Bq := Lib.hid (Bq.out.touch ht (by simp))
  replace HT := Lib.hid (HT.out.trans ht)
  clear hm hfm ht
  go_upto_region 3 with (first | (refine wpList_storeE rfl (.tmp 7) (.tmp 22) rfl (wm4.heap.size) rfl m rfl 24 _ Rm.out.len rfl (z1_0 wm4) ?_))
  obtain ⟨bm, bt⟩ := boxed1 wm4 m
  obtain ⟨w5, hw5⟩ : ∃ w5, w5 = ((wm4.alloc (.cells #[.int .i64 0, .int .i64 0, .int .i64 0, .int .i64 0, .int .i64 0, .int .i64 0, .int .i64 0, .int .i64 0, .int .i64 0, .int .i64 0, .int .i64 0, .int .i64 0, .int .i64 0, .int .i64 0, .int .i64 0, .int .i64 0] 24)).setRow (wm4.heap.size) (cellsZ m).toArray) := ⟨_, rfl⟩
  obtain ⟨g5, hg⟩ : ∃ g5, g5 = wm4.heap.size := ⟨_, rfl⟩
  rw [← hw5, ← hg] at bm
  rw [← hw5] at bt ⊢
  rw [← hg]
  replace Bp := Lib.hid (Bp.out.touch bt (by simp))
  replace Bq := Lib.hid (Bq.out.touch bt (by simp))
  replace HT := Lib.hid (HT.out.trans bt)
  have Bm := Lib.hid bm
  have ilm := Lib.hid (infoL Rm.out)
  clear bm bt hw5 hg
  go_wp2_with (first | (refine wpList_loadE rfl (.tmp 5) rfl (g3) rfl _ p Rp.out.len Bp.out ?_) | (refine wpList_loadE rfl (.tmp 6) rfl (g3 + 1) rfl _ q Rq.out.len Bq.out ?_) | (refine wpList_loadE rfl (.tmp 7) rfl (g5) rfl _ m Rm.out.len Bm.out ?_))
  refine (root_b (b := true) Rm.out (by rw [Fm.out]; exact NQ.out) _).mono ?_
  rintro e wr6 ⟨r, hr, hfr, rfl, ht⟩
  have Rr := Lib.hid hr
  have Fr := Lib.hid (show fe r = rootN (mulF X X) by rw [hfr, Fm.out])
  replace Bp := Lib.hid (Bp.out.touch ht (by simp))
  replace Bq := Lib.hid (Bq.out.touch ht (by simp))
  replace Bm := Lib.hid (Bm.out.touch ht (by simp))
  replace HT := Lib.hid (HT.out.trans ht)
  clear hr hfr ht
  go_upto_region 4 with (first | (refine wpList_storeE rfl (.tmp 8) (.tmp 26) rfl (wr6.heap.size) rfl r rfl 24 _ Rr.out.len rfl (z1_0 wr6) ?_))
  obtain ⟨br, bt⟩ := boxed1 wr6 r
  obtain ⟨w7, hw7⟩ : ∃ w7, w7 = ((wr6.alloc (.cells #[.int .i64 0, .int .i64 0, .int .i64 0, .int .i64 0, .int .i64 0, .int .i64 0, .int .i64 0, .int .i64 0, .int .i64 0, .int .i64 0, .int .i64 0, .int .i64 0, .int .i64 0, .int .i64 0, .int .i64 0, .int .i64 0] 24)).setRow (wr6.heap.size) (cellsZ r).toArray) := ⟨_, rfl⟩
  obtain ⟨g7, hg⟩ : ∃ g7, g7 = wr6.heap.size := ⟨_, rfl⟩
  rw [← hw7, ← hg] at br
  rw [← hw7] at bt ⊢
  rw [← hg]
  replace Bp := Lib.hid (Bp.out.touch bt (by simp))
  replace Bq := Lib.hid (Bq.out.touch bt (by simp))
  replace Bm := Lib.hid (Bm.out.touch bt (by simp))
  replace HT := Lib.hid (HT.out.trans bt)
  have Br := Lib.hid br
  have ilr := Lib.hid (infoL Rr.out)
  clear br bt hw7 hg
  go_wp2_with (first | (refine wpList_loadE rfl (.tmp 5) rfl (g3) rfl _ p Rp.out.len Bp.out ?_) | (refine wpList_loadE rfl (.tmp 6) rfl (g3 + 1) rfl _ q Rq.out.len Bq.out ?_) | (refine wpList_loadE rfl (.tmp 7) rfl (g5) rfl _ m Rm.out.len Bm.out ?_) | (refine wpList_loadE rfl (.tmp 8) rfl (g7) rfl _ r Rr.out.len Br.out ?_))
  refine (neg_anyE m Rm.out _).mono ?_
  rintro e wv8 ⟨v, hv, hfv, rfl, ht⟩
  have Rv := Lib.hid hv
  have Fv := Lib.hid (show fe v = negF (mulF X X) by rw [hfv, Fm.out])
  replace Bp := Lib.hid (Bp.out.touch ht (by simp))
  replace Bq := Lib.hid (Bq.out.touch ht (by simp))
  replace Bm := Lib.hid (Bm.out.touch ht (by simp))
  replace Br := Lib.hid (Br.out.touch ht (by simp))
  replace HT := Lib.hid (HT.out.trans ht)
  clear hv hfv ht
  go_wp2_with (first | (refine wpList_loadE rfl (.tmp 5) rfl (g3) rfl _ p Rp.out.len Bp.out ?_) | (refine wpList_loadE rfl (.tmp 6) rfl (g3 + 1) rfl _ q Rq.out.len Bq.out ?_) | (refine wpList_loadE rfl (.tmp 7) rfl (g5) rfl _ m Rm.out.len Bm.out ?_) | (refine wpList_loadE rfl (.tmp 8) rfl (g7) rfl _ r Rr.out.len Br.out ?_))
  refine (root_b (b := true) Rv.out (by rw [Fv.out]; exact NM.out) _).mono ?_
  rintro e wn9 ⟨n, hn, hfn, rfl, ht⟩
  have Rn := Lib.hid hn
  have Fn := Lib.hid (show fe n = rootN (negF (mulF X X)) by rw [hfn, Fv.out])
  replace Bp := Lib.hid (Bp.out.touch ht (by simp))
  replace Bq := Lib.hid (Bq.out.touch ht (by simp))
  replace Bm := Lib.hid (Bm.out.touch ht (by simp))
  replace Br := Lib.hid (Br.out.touch ht (by simp))
  replace HT := Lib.hid (HT.out.trans ht)
  clear hn hfn ht
  go_upto_region 5 with (first | (refine wpList_storeE rfl (.tmp 10) (.tmp 32) rfl (wn9.heap.size) rfl n rfl 24 _ Rn.out.len rfl (z1_0 wn9) ?_))
  obtain ⟨bn, bt⟩ := boxed1 wn9 n
  obtain ⟨w10, hw10⟩ : ∃ w10, w10 = ((wn9.alloc (.cells #[.int .i64 0, .int .i64 0, .int .i64 0, .int .i64 0, .int .i64 0, .int .i64 0, .int .i64 0, .int .i64 0, .int .i64 0, .int .i64 0, .int .i64 0, .int .i64 0, .int .i64 0, .int .i64 0, .int .i64 0, .int .i64 0] 24)).setRow (wn9.heap.size) (cellsZ n).toArray) := ⟨_, rfl⟩
  obtain ⟨g10, hg⟩ : ∃ g10, g10 = wn9.heap.size := ⟨_, rfl⟩
  rw [← hw10, ← hg] at bn
  rw [← hw10] at bt ⊢
  rw [← hg]
  replace Bp := Lib.hid (Bp.out.touch bt (by simp))
  replace Bq := Lib.hid (Bq.out.touch bt (by simp))
  replace Bm := Lib.hid (Bm.out.touch bt (by simp))
  replace Br := Lib.hid (Br.out.touch bt (by simp))
  replace HT := Lib.hid (HT.out.trans bt)
  have Bn := Lib.hid bn
  have iln := Lib.hid (infoL Rn.out)
  clear bn bt hw10 hg
  have rgp := Lib.hid (range_far Bp.out)
  have rgm := Lib.hid (range_far Bm.out)
  have rgr := Lib.hid (range_far Br.out)
  have rgn := Lib.hid (range_far Bn.out)
  refine wp_region_flow (by kernel_rfl) (fun W => Touch [] w10 W) (look [(5, isP (g3)), (7, isP (g5)), (8, isP (g7)), (9, isB true), (10, isP (g10)), (11, isB true), (34, isB true), (35, isB false), (36, isB false), (37, EV (rootN (mulF X X))), (38, isB false), (39, isB false), (40, isB false), (41, EV (rootN (mulF X X))), (42, EV (rootN (mulF X X))), (43, EV (mulF (rootN (mulF X X)) (rootN (mulF X X)))), (44, EV (mulF X X)), (45, isB true), (46, isB false), (47, isB false), (48, isB false), (49, EV (rootN (mulF X X))), (50, EV (X)), (51, isB true), (52, isB false), (53, isB false), (54, isU), (55, isU), (56, isU), (57, isU), (58, isU), (59, isB false), (60, isB false), (61, isB false), (62, isB true), (63, isB false), (64, isB false), (65, isB false), (66, EV (rootN (negF (mulF X X)))), (67, EV (rootN (negF (mulF X X)))), (68, EV (mulF (rootN (negF (mulF X X))) (rootN (negF (mulF X X))))), (69, EV (mulF X X)), (70, EV (negF (mulF X X))), (71, isB true), (72, isB false), (73, isB false)]) [5, 7, 8, 9, 10, 11] [34, 35, 36, 37, 38, 39, 40, 41, 42, 43, 44, 45, 46, 47, 48, 49, 50, 51, 52, 53, 54, 55, 56, 57, 58, 59, 60, 61, 62, 63, 64, 65, 66, 67, 68, 69, 70, 71, 72, 73] [73] (by kernel_rfl) (by kernel_rfl) (by kernel_rfl) (by kernel_rfl) (by first | exact (Touch.refl _ _).drew | assumption) ⟨rfl, rfl, rfl, rfl, rfl, rfl, trivial⟩ ?_ ?_
  · refine FSteps.cons (FStep.plain rfl fun a w hS hE => OpTo.move rfl ⟨dOf.of 34 rfl (hE 9 (by kernel_rfl)), hS⟩) ?_
    refine FSteps.cons (FStep.plain rfl fun a w hS hE => OpTo.not true rfl (hE 34 (by kernel_rfl)) ⟨dOf.of 35 rfl (Eq.refl (Value.bool false)), hS⟩) ?_
    refine FSteps.cons (FStep.plain rfl fun a w hS hE => OpTo.move rfl ⟨dOf.of 36 rfl (hE 35 (by kernel_rfl)), hS⟩) ?_
    refine FSteps.cons (FStep.go 36 rfl rfl (fun _ h => h) fun a w hS hE => OpTo.row _ (.tmp 8) rfl (g7) (hE 8 (by kernel_rfl)) (cellsZ r) _ (rgr.out w hS) Try.underlying24 rfl ilr.out ⟨dOf.of 37 rfl ⟨r, Rr.out, Fr.out, rfl⟩, hS⟩) ?_
    refine FSteps.cons (FStep.go 36 rfl rfl (fun _ h => h) fun a w hS hE => OpTo.call #[a.tmps.getD 37 undef] rfl Try.func23 (by kernel_rfl) (by kernel_rfl) (args1 ..) ((odd_v (hE 37 (by kernel_rfl)) K38.out w).mono fun _ _ h => Gives.to hS 38 rfl (fun _ h => h) h)) ?_
    refine FSteps.cons (FStep.plain rfl fun a w hS hE => OpTo.pick false rfl (hE 36 (by kernel_rfl)) ⟨dOf.of 39 rfl (hE 38 (by kernel_rfl)), hS⟩) ?_
    refine FSteps.cons (FStep.plain rfl fun a w hS hE => OpTo.move rfl ⟨dOf.of 40 rfl (hE 39 (by kernel_rfl)), hS⟩) ?_
    refine FSteps.cons (FStep.go 40 rfl rfl (fun _ h => h) fun a w hS hE => OpTo.row _ (.tmp 8) rfl (g7) (hE 8 (by kernel_rfl)) (cellsZ r) _ (rgr.out w hS) Try.underlying24 rfl ilr.out ⟨dOf.of 41 rfl ⟨r, Rr.out, Fr.out, rfl⟩, hS⟩) ?_
    refine FSteps.cons (FStep.go 40 rfl rfl (fun _ h => h) fun a w hS hE => OpTo.row _ (.tmp 8) rfl (g7) (hE 8 (by kernel_rfl)) (cellsZ r) _ (rgr.out w hS) Try.underlying24 rfl ilr.out ⟨dOf.of 42 rfl ⟨r, Rr.out, Fr.out, rfl⟩, hS⟩) ?_
    refine FSteps.cons (FStep.go 40 rfl rfl (fun _ h => h) fun a w hS hE => OpTo.call #[a.tmps.getD 41 undef, a.tmps.getD 42 undef] rfl Try.func18 (by kernel_rfl) (by kernel_rfl) (args2 ..) ((mul_v (hE 41 (by kernel_rfl)) (hE 42 (by kernel_rfl)) w).mono fun _ _ h => Gives.to hS 43 rfl (fun _ h => h) h)) ?_
    refine FSteps.cons (FStep.go 40 rfl rfl (fun _ h => h) fun a w hS hE => OpTo.row _ (.tmp 7) rfl (g5) (hE 7 (by kernel_rfl)) (cellsZ m) _ (rgm.out w hS) Try.underlying24 rfl ilm.out ⟨dOf.of 44 rfl ⟨m, Rm.out, Fm.out, rfl⟩, hS⟩) ?_
    refine FSteps.cons (FStep.go 40 rfl rfl (fun _ h => h) fun a w hS hE => OpTo.call #[a.tmps.getD 43 undef, a.tmps.getD 44 undef] rfl Try.func22 (by kernel_rfl) (by kernel_rfl) (args2 ..) ((same_v (hE 43 (by kernel_rfl)) (hE 44 (by kernel_rfl)) K45.out w).mono fun _ _ h => Gives.to hS 45 rfl (fun _ h => h) h)) ?_
    refine FSteps.cons (FStep.go 40 rfl rfl (fun _ h => h) fun a w hS hE => OpTo.not true rfl (hE 45 (by kernel_rfl)) ⟨dOf.of 46 rfl (Eq.refl (Value.bool false)), hS⟩) ?_
    refine FSteps.cons (FStep.plain rfl fun a w hS hE => OpTo.pick false rfl (hE 40 (by kernel_rfl)) ⟨dOf.of 47 rfl (hE 46 (by kernel_rfl)), hS⟩) ?_
    refine FSteps.cons (FStep.plain rfl fun a w hS hE => OpTo.move rfl ⟨dOf.of 48 rfl (hE 47 (by kernel_rfl)), hS⟩) ?_
    refine FSteps.cons (FStep.go 48 rfl rfl (fun _ h => h) fun a w hS hE => OpTo.row _ (.tmp 8) rfl (g7) (hE 8 (by kernel_rfl)) (cellsZ r) _ (rgr.out w hS) Try.underlying24 rfl ilr.out ⟨dOf.of 49 rfl ⟨r, Rr.out, Fr.out, rfl⟩, hS⟩) ?_
    refine FSteps.cons (FStep.go 48 rfl rfl (fun _ h => h) fun a w hS hE => OpTo.row _ (.tmp 5) rfl (g3) (hE 5 (by kernel_rfl)) (cellsZ p) _ (rgp.out w hS) Try.underlying24 rfl ilp.out ⟨dOf.of 50 rfl ⟨p, Rp.out, Fp.out, rfl⟩, hS⟩) ?_
    refine FSteps.cons (FStep.go 48 rfl rfl (fun _ h => h) fun a w hS hE => OpTo.call #[a.tmps.getD 49 undef, a.tmps.getD 50 undef] rfl Try.func22 (by kernel_rfl) (by kernel_rfl) (args2 ..) ((same_v (hE 49 (by kernel_rfl)) (hE 50 (by kernel_rfl)) K51.out w).mono fun _ _ h => Gives.to hS 51 rfl (fun _ h => h) h)) ?_
    refine FSteps.cons (FStep.go 48 rfl rfl (fun _ h => h) fun a w hS hE => OpTo.not true rfl (hE 51 (by kernel_rfl)) ⟨dOf.of 52 rfl (Eq.refl (Value.bool false)), hS⟩) ?_
    refine FSteps.cons (FStep.go 48 rfl rfl (fun _ h => h) fun a w hS hE => OpTo.move rfl ⟨dOf.of 53 rfl (hE 52 (by kernel_rfl)), hS⟩) ?_
    refine FSteps.cons (FStep.no 53 rfl rfl (fun _ h => h) (dOf.of 54 rfl rfl)) ?_
    refine FSteps.cons (FStep.no 53 rfl rfl (fun _ h => h) (dOf.of 55 rfl rfl)) ?_
    refine FSteps.cons (FStep.no 53 rfl rfl (fun _ h => h) (dOf.of 56 rfl rfl)) ?_
    refine FSteps.cons (FStep.no 53 rfl rfl (fun _ h => h) (dOf.of 57 rfl rfl)) ?_
    refine FSteps.cons (FStep.no 53 rfl rfl (fun _ h => h) (dOf.of 58 rfl rfl)) ?_
    refine FSteps.cons (FStep.go 48 rfl rfl (fun _ h => h) fun a w hS hE => OpTo.pick false rfl (hE 53 (by kernel_rfl)) ⟨dOf.of 59 rfl (Eq.refl (Value.bool false)), hS⟩) ?_
    refine FSteps.cons (FStep.plain rfl fun a w hS hE => OpTo.pick false rfl (hE 48 (by kernel_rfl)) ⟨dOf.of 60 rfl (hE 59 (by kernel_rfl)), hS⟩) ?_
    refine FSteps.cons (FStep.plain rfl fun a w hS hE => OpTo.move rfl ⟨dOf.of 61 rfl (hE 60 (by kernel_rfl)), hS⟩) ?_
    refine FSteps.cons (FStep.go 61 rfl rfl (fun _ h => h) fun a w hS hE => OpTo.move rfl ⟨dOf.of 62 rfl (hE 11 (by kernel_rfl)), hS⟩) ?_
    refine FSteps.cons (FStep.go 61 rfl rfl (fun _ h => h) fun a w hS hE => OpTo.not true rfl (hE 62 (by kernel_rfl)) ⟨dOf.of 63 rfl (Eq.refl (Value.bool false)), hS⟩) ?_
    refine FSteps.cons (FStep.plain rfl fun a w hS hE => OpTo.pick false rfl (hE 61 (by kernel_rfl)) ⟨dOf.of 64 rfl (hE 63 (by kernel_rfl)), hS⟩) ?_
    refine FSteps.cons (FStep.plain rfl fun a w hS hE => OpTo.move rfl ⟨dOf.of 65 rfl (hE 64 (by kernel_rfl)), hS⟩) ?_
    refine FSteps.cons (FStep.go 65 rfl rfl (fun _ h => h) fun a w hS hE => OpTo.row _ (.tmp 10) rfl (g10) (hE 10 (by kernel_rfl)) (cellsZ n) _ (rgn.out w hS) Try.underlying24 rfl iln.out ⟨dOf.of 66 rfl ⟨n, Rn.out, Fn.out, rfl⟩, hS⟩) ?_
    refine FSteps.cons (FStep.go 65 rfl rfl (fun _ h => h) fun a w hS hE => OpTo.row _ (.tmp 10) rfl (g10) (hE 10 (by kernel_rfl)) (cellsZ n) _ (rgn.out w hS) Try.underlying24 rfl iln.out ⟨dOf.of 67 rfl ⟨n, Rn.out, Fn.out, rfl⟩, hS⟩) ?_
    refine FSteps.cons (FStep.go 65 rfl rfl (fun _ h => h) fun a w hS hE => OpTo.call #[a.tmps.getD 66 undef, a.tmps.getD 67 undef] rfl Try.func18 (by kernel_rfl) (by kernel_rfl) (args2 ..) ((mul_v (hE 66 (by kernel_rfl)) (hE 67 (by kernel_rfl)) w).mono fun _ _ h => Gives.to hS 68 rfl (fun _ h => h) h)) ?_
    refine FSteps.cons (FStep.go 65 rfl rfl (fun _ h => h) fun a w hS hE => OpTo.row _ (.tmp 7) rfl (g5) (hE 7 (by kernel_rfl)) (cellsZ m) _ (rgm.out w hS) Try.underlying24 rfl ilm.out ⟨dOf.of 69 rfl ⟨m, Rm.out, Fm.out, rfl⟩, hS⟩) ?_
    refine FSteps.cons (FStep.go 65 rfl rfl (fun _ h => h) fun a w hS hE => OpTo.call #[a.tmps.getD 69 undef] rfl Try.func20 (by kernel_rfl) (by kernel_rfl) (args1 ..) ((neg_v (hE 69 (by kernel_rfl)) w).mono fun _ _ h => Gives.to hS 70 rfl (fun _ h => h) h)) ?_
    refine FSteps.cons (FStep.go 65 rfl rfl (fun _ h => h) fun a w hS hE => OpTo.call #[a.tmps.getD 68 undef, a.tmps.getD 70 undef] rfl Try.func22 (by kernel_rfl) (by kernel_rfl) (args2 ..) ((same_v (hE 68 (by kernel_rfl)) (hE 70 (by kernel_rfl)) K71.out w).mono fun _ _ h => Gives.to hS 71 rfl (fun _ h => h) h)) ?_
    refine FSteps.cons (FStep.go 65 rfl rfl (fun _ h => h) fun a w hS hE => OpTo.not true rfl (hE 71 (by kernel_rfl)) ⟨dOf.of 72 rfl (Eq.refl (Value.bool false)), hS⟩) ?_
    refine FSteps.cons (FStep.plain rfl fun a w hS hE => OpTo.pick false rfl (hE 65 (by kernel_rfl)) ⟨dOf.of 73 rfl (hE 72 (by kernel_rfl)), hS⟩) ?_
    exact FSteps.nil
  intro f wx hS hF
  obtain ⟨h73, -⟩ := hF
  replace h73 : f 73 = .bool false := h73
  (try unfold Act.put)
  simp only [setAll, List.setIfInBounds_toArray, List.set_cons_zero, List.set_cons_succ, h73]
  replace Bp := Lib.hid (Bp.out.touch hS (by simp))
  replace Bq := Lib.hid (Bq.out.touch hS (by simp))
  replace Bm := Lib.hid (Bm.out.touch hS (by simp))
  replace Br := Lib.hid (Br.out.touch hS (by simp))
  replace Bn := Lib.hid (Bn.out.touch hS (by simp))
  replace HT := Lib.hid (HT.out.trans hS)
  clear hS rgp rgm rgr rgn h73
  rename World => w11
  go_upto_region 7 with fail
  go_wp2_with (first | (refine wpList_loadE rfl (.tmp 5) rfl (g3) rfl _ p Rp.out.len Bp.out ?_) | (refine wpList_loadE rfl (.tmp 6) rfl (g3 + 1) rfl _ q Rq.out.len Bq.out ?_) | (refine wpList_loadE rfl (.tmp 7) rfl (g5) rfl _ m Rm.out.len Bm.out ?_) | (refine wpList_loadE rfl (.tmp 8) rfl (g7) rfl _ r Rr.out.len Br.out ?_) | (refine wpList_loadE rfl (.tmp 10) rfl (g10) rfl _ n Rn.out.len Bn.out ?_))
  refine (root_b (b := false) Rq.out (by rw [Fq.out]; exact NY.out) _).mono ?_
  rintro e ws12 ⟨s, hs, hfs, rfl, ht⟩
  have Rs := Lib.hid hs
  have Fs := Lib.hid (show fe s = rootN Y by rw [hfs, Fq.out])
  replace Bp := Lib.hid (Bp.out.touch ht (by simp))
  replace Bq := Lib.hid (Bq.out.touch ht (by simp))
  replace Bm := Lib.hid (Bm.out.touch ht (by simp))
  replace Br := Lib.hid (Br.out.touch ht (by simp))
  replace Bn := Lib.hid (Bn.out.touch ht (by simp))
  replace HT := Lib.hid (HT.out.trans ht)
  clear hs hfs ht
  go_upto_region 8 with (first | (refine wpList_storeE rfl (.tmp 12) (.tmp 77) rfl (ws12.heap.size) rfl s rfl 24 _ Rs.out.len rfl (z1_0 ws12) ?_))
  obtain ⟨bs, bt⟩ := boxed1 ws12 s
  obtain ⟨w13, hw13⟩ : ∃ w13, w13 = ((ws12.alloc (.cells #[.int .i64 0, .int .i64 0, .int .i64 0, .int .i64 0, .int .i64 0, .int .i64 0, .int .i64 0, .int .i64 0, .int .i64 0, .int .i64 0, .int .i64 0, .int .i64 0, .int .i64 0, .int .i64 0, .int .i64 0, .int .i64 0] 24)).setRow (ws12.heap.size) (cellsZ s).toArray) := ⟨_, rfl⟩
  obtain ⟨g13, hg⟩ : ∃ g13, g13 = ws12.heap.size := ⟨_, rfl⟩
  rw [← hw13, ← hg] at bs
  rw [← hw13] at bt ⊢
  rw [← hg]
  replace Bp := Lib.hid (Bp.out.touch bt (by simp))
  replace Bq := Lib.hid (Bq.out.touch bt (by simp))
  replace Bm := Lib.hid (Bm.out.touch bt (by simp))
  replace Br := Lib.hid (Br.out.touch bt (by simp))
  replace Bn := Lib.hid (Bn.out.touch bt (by simp))
  replace HT := Lib.hid (HT.out.trans bt)
  have Bs := Lib.hid bs
  have ils := Lib.hid (infoL Rs.out)
  clear bs bt hw13 hg
  go_wp2_with (first | (refine wpList_loadE rfl (.tmp 5) rfl (g3) rfl _ p Rp.out.len Bp.out ?_) | (refine wpList_loadE rfl (.tmp 6) rfl (g3 + 1) rfl _ q Rq.out.len Bq.out ?_) | (refine wpList_loadE rfl (.tmp 7) rfl (g5) rfl _ m Rm.out.len Bm.out ?_) | (refine wpList_loadE rfl (.tmp 8) rfl (g7) rfl _ r Rr.out.len Br.out ?_) | (refine wpList_loadE rfl (.tmp 10) rfl (g10) rfl _ n Rn.out.len Bn.out ?_) | (refine wpList_loadE rfl (.tmp 12) rfl (g13) rfl _ s Rs.out.len Bs.out ?_))
  refine (mul_any q m Rq.out Rm.out _).mono ?_
  rintro e wu14 ⟨u, hu, hfu, rfl, ht⟩
  have Ru := Lib.hid hu
  have Fu := Lib.hid (show fe u = mulF Y (mulF X X) by rw [hfu, Fq.out, Fm.out])
  replace Bp := Lib.hid (Bp.out.touch ht (by simp))
  replace Bq := Lib.hid (Bq.out.touch ht (by simp))
  replace Bm := Lib.hid (Bm.out.touch ht (by simp))
  replace Br := Lib.hid (Br.out.touch ht (by simp))
  replace Bn := Lib.hid (Bn.out.touch ht (by simp))
  replace Bs := Lib.hid (Bs.out.touch ht (by simp))
  replace HT := Lib.hid (HT.out.trans ht)
  clear hu hfu ht
  go_wp2_with (first | (refine wpList_loadE rfl (.tmp 5) rfl (g3) rfl _ p Rp.out.len Bp.out ?_) | (refine wpList_loadE rfl (.tmp 6) rfl (g3 + 1) rfl _ q Rq.out.len Bq.out ?_) | (refine wpList_loadE rfl (.tmp 7) rfl (g5) rfl _ m Rm.out.len Bm.out ?_) | (refine wpList_loadE rfl (.tmp 8) rfl (g7) rfl _ r Rr.out.len Br.out ?_) | (refine wpList_loadE rfl (.tmp 10) rfl (g10) rfl _ n Rn.out.len Bn.out ?_) | (refine wpList_loadE rfl (.tmp 12) rfl (g13) rfl _ s Rs.out.len Bs.out ?_))
  refine (root_b (b := false) Ru.out (by rw [Fu.out]; exact NB.out) _).mono ?_
  rintro e wz15 ⟨z, hz, hfz, rfl, ht⟩
  have Rz := Lib.hid hz
  have Fz := Lib.hid (show fe z = rootN (mulF Y (mulF X X)) by rw [hfz, Fu.out])
  replace Bp := Lib.hid (Bp.out.touch ht (by simp))
  replace Bq := Lib.hid (Bq.out.touch ht (by simp))
  replace Bm := Lib.hid (Bm.out.touch ht (by simp))
  replace Br := Lib.hid (Br.out.touch ht (by simp))
  replace Bn := Lib.hid (Bn.out.touch ht (by simp))
  replace Bs := Lib.hid (Bs.out.touch ht (by simp))
  replace HT := Lib.hid (HT.out.trans ht)
  clear hz hfz ht
  go_upto_region 9 with (first | (refine wpList_storeE rfl (.tmp 14) (.tmp 84) rfl (wz15.heap.size) rfl z rfl 24 _ Rz.out.len rfl (z1_0 wz15) ?_))
  obtain ⟨bz, bt⟩ := boxed1 wz15 z
  obtain ⟨w16, hw16⟩ : ∃ w16, w16 = ((wz15.alloc (.cells #[.int .i64 0, .int .i64 0, .int .i64 0, .int .i64 0, .int .i64 0, .int .i64 0, .int .i64 0, .int .i64 0, .int .i64 0, .int .i64 0, .int .i64 0, .int .i64 0, .int .i64 0, .int .i64 0, .int .i64 0, .int .i64 0] 24)).setRow (wz15.heap.size) (cellsZ z).toArray) := ⟨_, rfl⟩
  obtain ⟨g16, hg⟩ : ∃ g16, g16 = wz15.heap.size := ⟨_, rfl⟩
  rw [← hw16, ← hg] at bz
  rw [← hw16] at bt ⊢
  rw [← hg]
  replace Bp := Lib.hid (Bp.out.touch bt (by simp))
  replace Bq := Lib.hid (Bq.out.touch bt (by simp))
  replace Bm := Lib.hid (Bm.out.touch bt (by simp))
  replace Br := Lib.hid (Br.out.touch bt (by simp))
  replace Bn := Lib.hid (Bn.out.touch bt (by simp))
  replace Bs := Lib.hid (Bs.out.touch bt (by simp))
  replace HT := Lib.hid (HT.out.trans bt)
  have Bz := Lib.hid bz
  have ilz := Lib.hid (infoL Rz.out)
  clear bz bt hw16 hg
  have rgp := Lib.hid (range_far Bp.out)
  have rgq := Lib.hid (range_far Bq.out)
  have rgs := Lib.hid (range_far Bs.out)
  refine wp_region_flow (by kernel_rfl) (fun W => Touch [] w16 W) (look [(4, isB true), (5, isP (g3)), (6, isP (g3 + 1)), (12, isP (g13)), (13, isB false), (15, isB false), (86, isB false), (87, isB false), (88, isB false), (89, isU), (90, isU), (91, isU), (92, isB false), (93, isB false), (94, EV (X)), (95, isB false), (96, isB false), (97, isU), (98, isB false), (99, isB false), (100, isB true), (101, isB true), (102, isB false), (103, isB true), (104, isB true), (105, isU), (106, isU), (107, isU), (108, isU), (109, isU), (110, isU), (111, isU), (112, isU), (113, isU), (114, isU), (115, isB true), (116, isB true), (117, isB true), (118, isB true), (119, isB true)]) [5, 6, 12, 13, 15] [86, 87, 88, 89, 90, 91, 92, 93, 94, 95, 96, 97, 98, 99, 100, 101, 102, 103, 104, 105, 106, 107, 108, 109, 110, 111, 112, 113, 114, 115, 116, 117, 118, 119, 4] [4] (by kernel_rfl) (by kernel_rfl) (by kernel_rfl) (by kernel_rfl) (by first | exact (Touch.refl _ _).drew | assumption) ⟨rfl, rfl, rfl, rfl, rfl, trivial⟩ ?_ ?_
  · refine FSteps.cons (FStep.plain rfl fun a w hS hE => OpTo.move rfl ⟨dOf.of 86 rfl (hE 13 (by kernel_rfl)), hS⟩) ?_
    refine FSteps.cons (FStep.plain rfl fun a w hS hE => OpTo.move rfl ⟨dOf.of 87 rfl (hE 15 (by kernel_rfl)), hS⟩) ?_
    refine FSteps.cons (FStep.plain rfl fun a w hS hE => OpTo.move rfl ⟨dOf.of 88 rfl (hE 87 (by kernel_rfl)), hS⟩) ?_
    refine FSteps.cons (FStep.no 88 rfl rfl (fun _ h => h) (dOf.of 89 rfl rfl)) ?_
    refine FSteps.cons (FStep.no 88 rfl rfl (fun _ h => h) (dOf.of 90 rfl rfl)) ?_
    refine FSteps.cons (FStep.no 88 rfl rfl (fun _ h => h) (dOf.of 91 rfl rfl)) ?_
    refine FSteps.cons (FStep.plain rfl fun a w hS hE => OpTo.pick false rfl (hE 88 (by kernel_rfl)) ⟨dOf.of 92 rfl (Eq.refl (Value.bool false)), hS⟩) ?_
    refine FSteps.cons (FStep.plain rfl fun a w hS hE => OpTo.move rfl ⟨dOf.of 93 rfl (hE 92 (by kernel_rfl)), hS⟩) ?_
    refine FSteps.cons (FStep.go 93 rfl rfl (fun _ h => h) fun a w hS hE => OpTo.row _ (.tmp 5) rfl (g3) (hE 5 (by kernel_rfl)) (cellsZ p) _ (rgp.out w hS) Try.underlying24 rfl ilp.out ⟨dOf.of 94 rfl ⟨p, Rp.out, Fp.out, rfl⟩, hS⟩) ?_
    refine FSteps.cons (FStep.go 93 rfl rfl (fun _ h => h) fun a w hS hE => OpTo.call #[a.tmps.getD 94 undef] rfl Try.func25 (by kernel_rfl) (by kernel_rfl) (args1 ..) ((zero_v (hE 94 (by kernel_rfl)) K90.out w).mono fun _ _ h => Gives.to hS 95 rfl (fun _ h => h) h)) ?_
    refine FSteps.cons (FStep.go 93 rfl rfl (fun _ h => h) fun a w hS hE => OpTo.move rfl ⟨dOf.of 96 rfl (hE 95 (by kernel_rfl)), hS⟩) ?_
    refine FSteps.cons (FStep.no 96 rfl rfl (fun _ h => h) (dOf.of 97 rfl rfl)) ?_
    refine FSteps.cons (FStep.go 93 rfl rfl (fun _ h => h) fun a w hS hE => OpTo.pick false rfl (hE 96 (by kernel_rfl)) ⟨dOf.of 98 rfl (Eq.refl (Value.bool false)), hS⟩) ?_
    refine FSteps.cons (FStep.plain rfl fun a w hS hE => OpTo.pick false rfl (hE 93 (by kernel_rfl)) ⟨dOf.of 99 rfl (hE 98 (by kernel_rfl)), hS⟩) ?_
    refine FSteps.cons (FStep.plain rfl fun a w hS hE => OpTo.eqB Try.underlying4 false false rfl (hE 86 (by kernel_rfl)) (hE 99 (by kernel_rfl)) ⟨dOf.of 100 rfl (Eq.refl (Value.bool true)), hS⟩) ?_
    refine FSteps.cons (FStep.plain rfl fun a w hS hE => OpTo.move rfl ⟨dOf.of 101 rfl (hE 100 (by kernel_rfl)), hS⟩) ?_
    refine FSteps.cons (FStep.go 101 rfl rfl (fun _ h => h) fun a w hS hE => OpTo.move rfl ⟨dOf.of 102 rfl (hE 13 (by kernel_rfl)), hS⟩) ?_
    refine FSteps.cons (FStep.go 101 rfl rfl (fun _ h => h) fun a w hS hE => OpTo.not false rfl (hE 102 (by kernel_rfl)) ⟨dOf.of 103 rfl (Eq.refl (Value.bool true)), hS⟩) ?_
    refine FSteps.cons (FStep.go 101 rfl rfl (fun _ h => h) fun a w hS hE => OpTo.move rfl ⟨dOf.of 104 rfl (hE 103 (by kernel_rfl)), hS⟩) ?_
    refine FSteps.cons (FStep.no 104 rfl rfl (fun _ h => h) (dOf.of 105 rfl rfl)) ?_
    refine FSteps.cons (FStep.no 104 rfl rfl (fun _ h => h) (dOf.of 106 rfl rfl)) ?_
    refine FSteps.cons (FStep.no 104 rfl rfl (fun _ h => h) (dOf.of 107 rfl rfl)) ?_
    refine FSteps.cons (FStep.no 104 rfl rfl (fun _ h => h) (dOf.of 108 rfl rfl)) ?_
    refine FSteps.cons (FStep.no 104 rfl rfl (fun _ h => h) (dOf.of 109 rfl rfl)) ?_
    refine FSteps.cons (FStep.no 104 rfl rfl (fun _ h => h) (dOf.of 110 rfl rfl)) ?_
    refine FSteps.cons (FStep.noU 110 rfl rfl (fun _ h => h) (dOf.of 111 rfl rfl)) ?_
    refine FSteps.cons (FStep.noU 110 rfl rfl (fun _ h => h) (dOf.of 112 rfl rfl)) ?_
    refine FSteps.cons (FStep.noU 110 rfl rfl (fun _ h => h) (dOf.of 113 rfl rfl)) ?_
    refine FSteps.cons (FStep.no 104 rfl rfl (fun _ h => h) (dOf.of 114 rfl rfl)) ?_
    refine FSteps.cons (FStep.go 101 rfl rfl (fun _ h => h) fun a w hS hE => OpTo.pick true rfl (hE 104 (by kernel_rfl)) ⟨dOf.of 115 rfl (Eq.refl (Value.bool true)), hS⟩) ?_
    refine FSteps.cons (FStep.plain rfl fun a w hS hE => OpTo.pick true rfl (hE 101 (by kernel_rfl)) ⟨dOf.of 116 rfl (hE 115 (by kernel_rfl)), hS⟩) ?_
    refine FSteps.cons (FStep.plain rfl fun a w hS hE => OpTo.move rfl ⟨dOf.of 117 rfl (hE 116 (by kernel_rfl)), hS⟩) ?_
    refine FSteps.cons (FStep.go 117 rfl rfl (fun _ h => h) fun a w hS hE => OpTo.call #[] rfl Try.func27 (by kernel_rfl) (by kernel_rfl) (args0 ..) ((fixed_v hfix w).mono fun _ _ h => Gives.to hS 118 rfl (fun _ h => h) h)) ?_
    refine FSteps.cons (FStep.plain rfl fun a w hS hE => OpTo.pick true rfl (hE 117 (by kernel_rfl)) ⟨dOf.of 119 rfl (hE 118 (by kernel_rfl)), hS⟩) ?_
    refine FSteps.cons (FStep.plain rfl fun a w hS hE => OpTo.assign rfl ⟨dOf.of 4 rfl (hE 119 (by kernel_rfl)), hS⟩) ?_
    exact FSteps.nil
  intro f wx hS hF
  obtain ⟨h4, -⟩ := hF
  replace h4 : f 4 = .bool true := h4
  (try unfold Act.put)
  simp only [setAll, List.setIfInBounds_toArray, List.set_cons_zero, List.set_cons_succ, h4]
  replace Bp := Lib.hid (Bp.out.touch hS (by simp))
  replace Bq := Lib.hid (Bq.out.touch hS (by simp))
  replace Bm := Lib.hid (Bm.out.touch hS (by simp))
  replace Br := Lib.hid (Br.out.touch hS (by simp))
  replace Bn := Lib.hid (Bn.out.touch hS (by simp))
  replace Bs := Lib.hid (Bs.out.touch hS (by simp))
  replace Bz := Lib.hid (Bz.out.touch hS (by simp))
  replace HT := Lib.hid (HT.out.trans hS)
  clear hS rgp rgq rgs h4
  rename World => w17
  
  go_wp2_with fail
  go_ret
  exact ⟨rfl, HT.out⟩
set_option maxRecDepth 100000 in
set_option maxHeartbeats 4000000 in
theorem fsq_ft (hfix : FixedOk) (a b : ByteArray) (w : World) (X Y : Nat) (HX : Hid (cutN a = X)) (HY : Hid (cutN b = Y)) (lX : X < PP) (lY : Y < PP) (hR : ¬ rootN (mulF X X) = X) (h0 : ¬ X = 0) (hN : isN Y = true) : Calls Try.prog 8 #[.string a, .string b] w fun e w' => e = .returned (.bool true) ∧ Touch [] w w' := by
  have hq : isN (mulF X X) = true := sq_isN lX rfl
  have NQ := Lib.hid hq
  have NM := Lib.hid (neg_isN X)
  have NY := Lib.hid hN
  have K38 := Lib.hid (show decide (rootN (mulF X X) % 2 = 1) = false from decide_eq_false (root_even _))
  have K45 := Lib.hid (show decide (mulF (rootN (mulF X X)) (rootN (mulF X X)) = mulF X X) = true from decide_eq_true (root_sq hq))
  have K51 := Lib.hid (show decide (rootN (mulF X X) = X) = false from decide_eq_false (hR))
  have K57 := Lib.hid (show decide (negF (rootN (mulF X X)) = X) = true from decide_eq_true (root_of_sq lX hR))
  have K71 := Lib.hid (show decide (mulF (rootN (negF (mulF X X))) (rootN (negF (mulF X X))) = negF (mulF X X)) = true from decide_eq_true (root_sq (neg_isN X)))
  have K90 := Lib.hid (show decide (X = 0) = false from decide_eq_false (h0))
  have NB := Lib.hid (show isN (mulF Y (mulF X X)) = true by rw [mul_isN lX lY h0]; exact hN)
  have K109 := Lib.hid (show decide (mulF (rootN Y) (rootN Y) = Y) = true from decide_eq_true (root_sq hN))
  have K112 := Lib.hid (show decide (rootN Y % 2 = 1) = false from decide_eq_false (root_even _))
  clear hq hR h0 hN lX lY
  have HT := Lib.hid (Touch.refl [] w)
  go_enter Try.func8, Try.ntmps8
  go_wp2_with fail
  refine (cut_anyE a _).mono ?_
  rintro e wp1 ⟨p, hp, hfp, rfl, ht⟩
  have Rp := Lib.hid hp
  have Fp := Lib.hid (show fe p = X by rw [hfp, HX.out])
  replace HT := Lib.hid (HT.out.trans ht)
  clear hp hfp ht
  go_wp2_with fail
  refine (cut_anyE b _).mono ?_
  rintro e wq2 ⟨q, hq, hfq, rfl, ht⟩
  have Rq := Lib.hid hq
  have Fq := Lib.hid (show fe q = Y by rw [hfq, HY.out])
  replace HT := Lib.hid (HT.out.trans ht)
  clear hq hfq ht
  go_upto_region 2 with (first | (refine wpList_storeE rfl (.tmp 5) (.tmp 17) rfl (wq2.heap.size) rfl p rfl 24 _ Rp.out.len rfl (z2_0 wq2) ?_) | (refine wpList_storeE rfl (.tmp 6) (.tmp 19) rfl (wq2.heap.size + 1) rfl q rfl 24 _ Rq.out.len rfl (Blk.frow (z2_1 wq2) (by omega) _) ?_))
  obtain ⟨bp, bq, bt⟩ := boxed2 wq2 p q
  obtain ⟨w3, hw3⟩ : ∃ w3, w3 = ((((wq2.alloc (.cells #[.int .i64 0, .int .i64 0, .int .i64 0, .int .i64 0, .int .i64 0, .int .i64 0, .int .i64 0, .int .i64 0, .int .i64 0, .int .i64 0, .int .i64 0, .int .i64 0, .int .i64 0, .int .i64 0, .int .i64 0, .int .i64 0] 24)).alloc (.cells #[.int .i64 0, .int .i64 0, .int .i64 0, .int .i64 0, .int .i64 0, .int .i64 0, .int .i64 0, .int .i64 0, .int .i64 0, .int .i64 0, .int .i64 0, .int .i64 0, .int .i64 0, .int .i64 0, .int .i64 0, .int .i64 0] 24)).setRow (wq2.heap.size) (cellsZ p).toArray).setRow (wq2.heap.size + 1) (cellsZ q).toArray) := ⟨_, rfl⟩
  obtain ⟨g3, hg⟩ : ∃ g3, g3 = wq2.heap.size := ⟨_, rfl⟩
  rw [← hw3, ← hg] at bp bq
  rw [← hw3] at bt ⊢
  rw [← hg]
  replace HT := Lib.hid (HT.out.trans bt)
  have Bp := Lib.hid bp
  have ilp := Lib.hid (infoL Rp.out)
  have Bq := Lib.hid bq
  have ilq := Lib.hid (infoL Rq.out)
  clear bp bq bt hw3 hg
  go_wp2_with (first | (refine wpList_loadE rfl (.tmp 5) rfl (g3) rfl _ p Rp.out.len Bp.out ?_) | (refine wpList_loadE rfl (.tmp 6) rfl (g3 + 1) rfl _ q Rq.out.len Bq.out ?_))
  refine (mul_any p p Rp.out Rp.out _).mono ?_
  rintro e wm4 ⟨m, hm, hfm, rfl, ht⟩
  have Rm := Lib.hid hm
  have Fm := Lib.hid (show fe m = mulF X X by rw [hfm, Fp.out])
  replace Bp := Lib.hid (Bp.out.touch ht (by simp))
  replace Bq := Lib.hid (Bq.out.touch ht (by simp))
  replace HT := Lib.hid (HT.out.trans ht)
  clear hm hfm ht
  go_upto_region 3 with (first | (refine wpList_storeE rfl (.tmp 7) (.tmp 22) rfl (wm4.heap.size) rfl m rfl 24 _ Rm.out.len rfl (z1_0 wm4) ?_))
  obtain ⟨bm, bt⟩ := boxed1 wm4 m
  obtain ⟨w5, hw5⟩ : ∃ w5, w5 = ((wm4.alloc (.cells #[.int .i64 0, .int .i64 0, .int .i64 0, .int .i64 0, .int .i64 0, .int .i64 0, .int .i64 0, .int .i64 0, .int .i64 0, .int .i64 0, .int .i64 0, .int .i64 0, .int .i64 0, .int .i64 0, .int .i64 0, .int .i64 0] 24)).setRow (wm4.heap.size) (cellsZ m).toArray) := ⟨_, rfl⟩
  obtain ⟨g5, hg⟩ : ∃ g5, g5 = wm4.heap.size := ⟨_, rfl⟩
  rw [← hw5, ← hg] at bm
  rw [← hw5] at bt ⊢
  rw [← hg]
  replace Bp := Lib.hid (Bp.out.touch bt (by simp))
  replace Bq := Lib.hid (Bq.out.touch bt (by simp))
  replace HT := Lib.hid (HT.out.trans bt)
  have Bm := Lib.hid bm
  have ilm := Lib.hid (infoL Rm.out)
  clear bm bt hw5 hg
  go_wp2_with (first | (refine wpList_loadE rfl (.tmp 5) rfl (g3) rfl _ p Rp.out.len Bp.out ?_) | (refine wpList_loadE rfl (.tmp 6) rfl (g3 + 1) rfl _ q Rq.out.len Bq.out ?_) | (refine wpList_loadE rfl (.tmp 7) rfl (g5) rfl _ m Rm.out.len Bm.out ?_))
  refine (root_b (b := true) Rm.out (by rw [Fm.out]; exact NQ.out) _).mono ?_
  rintro e wr6 ⟨r, hr, hfr, rfl, ht⟩
  have Rr := Lib.hid hr
  have Fr := Lib.hid (show fe r = rootN (mulF X X) by rw [hfr, Fm.out])
  replace Bp := Lib.hid (Bp.out.touch ht (by simp))
  replace Bq := Lib.hid (Bq.out.touch ht (by simp))
  replace Bm := Lib.hid (Bm.out.touch ht (by simp))
  replace HT := Lib.hid (HT.out.trans ht)
  clear hr hfr ht
  go_upto_region 4 with (first | (refine wpList_storeE rfl (.tmp 8) (.tmp 26) rfl (wr6.heap.size) rfl r rfl 24 _ Rr.out.len rfl (z1_0 wr6) ?_))
  obtain ⟨br, bt⟩ := boxed1 wr6 r
  obtain ⟨w7, hw7⟩ : ∃ w7, w7 = ((wr6.alloc (.cells #[.int .i64 0, .int .i64 0, .int .i64 0, .int .i64 0, .int .i64 0, .int .i64 0, .int .i64 0, .int .i64 0, .int .i64 0, .int .i64 0, .int .i64 0, .int .i64 0, .int .i64 0, .int .i64 0, .int .i64 0, .int .i64 0] 24)).setRow (wr6.heap.size) (cellsZ r).toArray) := ⟨_, rfl⟩
  obtain ⟨g7, hg⟩ : ∃ g7, g7 = wr6.heap.size := ⟨_, rfl⟩
  rw [← hw7, ← hg] at br
  rw [← hw7] at bt ⊢
  rw [← hg]
  replace Bp := Lib.hid (Bp.out.touch bt (by simp))
  replace Bq := Lib.hid (Bq.out.touch bt (by simp))
  replace Bm := Lib.hid (Bm.out.touch bt (by simp))
  replace HT := Lib.hid (HT.out.trans bt)
  have Br := Lib.hid br
  have ilr := Lib.hid (infoL Rr.out)
  clear br bt hw7 hg
  go_wp2_with (first | (refine wpList_loadE rfl (.tmp 5) rfl (g3) rfl _ p Rp.out.len Bp.out ?_) | (refine wpList_loadE rfl (.tmp 6) rfl (g3 + 1) rfl _ q Rq.out.len Bq.out ?_) | (refine wpList_loadE rfl (.tmp 7) rfl (g5) rfl _ m Rm.out.len Bm.out ?_) | (refine wpList_loadE rfl (.tmp 8) rfl (g7) rfl _ r Rr.out.len Br.out ?_))
  refine (neg_anyE m Rm.out _).mono ?_
  rintro e wv8 ⟨v, hv, hfv, rfl, ht⟩
  have Rv := Lib.hid hv
  have Fv := Lib.hid (show fe v = negF (mulF X X) by rw [hfv, Fm.out])
  replace Bp := Lib.hid (Bp.out.touch ht (by simp))
  replace Bq := Lib.hid (Bq.out.touch ht (by simp))
  replace Bm := Lib.hid (Bm.out.touch ht (by simp))
  replace Br := Lib.hid (Br.out.touch ht (by simp))
  replace HT := Lib.hid (HT.out.trans ht)
  clear hv hfv ht
  go_wp2_with (first | (refine wpList_loadE rfl (.tmp 5) rfl (g3) rfl _ p Rp.out.len Bp.out ?_) | (refine wpList_loadE rfl (.tmp 6) rfl (g3 + 1) rfl _ q Rq.out.len Bq.out ?_) | (refine wpList_loadE rfl (.tmp 7) rfl (g5) rfl _ m Rm.out.len Bm.out ?_) | (refine wpList_loadE rfl (.tmp 8) rfl (g7) rfl _ r Rr.out.len Br.out ?_))
  refine (root_b (b := true) Rv.out (by rw [Fv.out]; exact NM.out) _).mono ?_
  rintro e wn9 ⟨n, hn, hfn, rfl, ht⟩
  have Rn := Lib.hid hn
  have Fn := Lib.hid (show fe n = rootN (negF (mulF X X)) by rw [hfn, Fv.out])
  replace Bp := Lib.hid (Bp.out.touch ht (by simp))
  replace Bq := Lib.hid (Bq.out.touch ht (by simp))
  replace Bm := Lib.hid (Bm.out.touch ht (by simp))
  replace Br := Lib.hid (Br.out.touch ht (by simp))
  replace HT := Lib.hid (HT.out.trans ht)
  clear hn hfn ht
  go_upto_region 5 with (first | (refine wpList_storeE rfl (.tmp 10) (.tmp 32) rfl (wn9.heap.size) rfl n rfl 24 _ Rn.out.len rfl (z1_0 wn9) ?_))
  obtain ⟨bn, bt⟩ := boxed1 wn9 n
  obtain ⟨w10, hw10⟩ : ∃ w10, w10 = ((wn9.alloc (.cells #[.int .i64 0, .int .i64 0, .int .i64 0, .int .i64 0, .int .i64 0, .int .i64 0, .int .i64 0, .int .i64 0, .int .i64 0, .int .i64 0, .int .i64 0, .int .i64 0, .int .i64 0, .int .i64 0, .int .i64 0, .int .i64 0] 24)).setRow (wn9.heap.size) (cellsZ n).toArray) := ⟨_, rfl⟩
  obtain ⟨g10, hg⟩ : ∃ g10, g10 = wn9.heap.size := ⟨_, rfl⟩
  rw [← hw10, ← hg] at bn
  rw [← hw10] at bt ⊢
  rw [← hg]
  replace Bp := Lib.hid (Bp.out.touch bt (by simp))
  replace Bq := Lib.hid (Bq.out.touch bt (by simp))
  replace Bm := Lib.hid (Bm.out.touch bt (by simp))
  replace Br := Lib.hid (Br.out.touch bt (by simp))
  replace HT := Lib.hid (HT.out.trans bt)
  have Bn := Lib.hid bn
  have iln := Lib.hid (infoL Rn.out)
  clear bn bt hw10 hg
  have rgp := Lib.hid (range_far Bp.out)
  have rgm := Lib.hid (range_far Bm.out)
  have rgr := Lib.hid (range_far Br.out)
  have rgn := Lib.hid (range_far Bn.out)
  refine wp_region_flow (by kernel_rfl) (fun W => Touch [] w10 W) (look [(5, isP (g3)), (7, isP (g5)), (8, isP (g7)), (9, isB true), (10, isP (g10)), (11, isB true), (34, isB true), (35, isB false), (36, isB false), (37, EV (rootN (mulF X X))), (38, isB false), (39, isB false), (40, isB false), (41, EV (rootN (mulF X X))), (42, EV (rootN (mulF X X))), (43, EV (mulF (rootN (mulF X X)) (rootN (mulF X X)))), (44, EV (mulF X X)), (45, isB true), (46, isB false), (47, isB false), (48, isB false), (49, EV (rootN (mulF X X))), (50, EV (X)), (51, isB false), (52, isB true), (53, isB true), (54, EV (rootN (mulF X X))), (55, EV (negF (rootN (mulF X X)))), (56, EV (X)), (57, isB true), (58, isB false), (59, isB false), (60, isB false), (61, isB false), (62, isB true), (63, isB false), (64, isB false), (65, isB false), (66, EV (rootN (negF (mulF X X)))), (67, EV (rootN (negF (mulF X X)))), (68, EV (mulF (rootN (negF (mulF X X))) (rootN (negF (mulF X X))))), (69, EV (mulF X X)), (70, EV (negF (mulF X X))), (71, isB true), (72, isB false), (73, isB false)]) [5, 7, 8, 9, 10, 11] [34, 35, 36, 37, 38, 39, 40, 41, 42, 43, 44, 45, 46, 47, 48, 49, 50, 51, 52, 53, 54, 55, 56, 57, 58, 59, 60, 61, 62, 63, 64, 65, 66, 67, 68, 69, 70, 71, 72, 73] [73] (by kernel_rfl) (by kernel_rfl) (by kernel_rfl) (by kernel_rfl) (by first | exact (Touch.refl _ _).drew | assumption) ⟨rfl, rfl, rfl, rfl, rfl, rfl, trivial⟩ ?_ ?_
  · refine FSteps.cons (FStep.plain rfl fun a w hS hE => OpTo.move rfl ⟨dOf.of 34 rfl (hE 9 (by kernel_rfl)), hS⟩) ?_
    refine FSteps.cons (FStep.plain rfl fun a w hS hE => OpTo.not true rfl (hE 34 (by kernel_rfl)) ⟨dOf.of 35 rfl (Eq.refl (Value.bool false)), hS⟩) ?_
    refine FSteps.cons (FStep.plain rfl fun a w hS hE => OpTo.move rfl ⟨dOf.of 36 rfl (hE 35 (by kernel_rfl)), hS⟩) ?_
    refine FSteps.cons (FStep.go 36 rfl rfl (fun _ h => h) fun a w hS hE => OpTo.row _ (.tmp 8) rfl (g7) (hE 8 (by kernel_rfl)) (cellsZ r) _ (rgr.out w hS) Try.underlying24 rfl ilr.out ⟨dOf.of 37 rfl ⟨r, Rr.out, Fr.out, rfl⟩, hS⟩) ?_
    refine FSteps.cons (FStep.go 36 rfl rfl (fun _ h => h) fun a w hS hE => OpTo.call #[a.tmps.getD 37 undef] rfl Try.func23 (by kernel_rfl) (by kernel_rfl) (args1 ..) ((odd_v (hE 37 (by kernel_rfl)) K38.out w).mono fun _ _ h => Gives.to hS 38 rfl (fun _ h => h) h)) ?_
    refine FSteps.cons (FStep.plain rfl fun a w hS hE => OpTo.pick false rfl (hE 36 (by kernel_rfl)) ⟨dOf.of 39 rfl (hE 38 (by kernel_rfl)), hS⟩) ?_
    refine FSteps.cons (FStep.plain rfl fun a w hS hE => OpTo.move rfl ⟨dOf.of 40 rfl (hE 39 (by kernel_rfl)), hS⟩) ?_
    refine FSteps.cons (FStep.go 40 rfl rfl (fun _ h => h) fun a w hS hE => OpTo.row _ (.tmp 8) rfl (g7) (hE 8 (by kernel_rfl)) (cellsZ r) _ (rgr.out w hS) Try.underlying24 rfl ilr.out ⟨dOf.of 41 rfl ⟨r, Rr.out, Fr.out, rfl⟩, hS⟩) ?_
    refine FSteps.cons (FStep.go 40 rfl rfl (fun _ h => h) fun a w hS hE => OpTo.row _ (.tmp 8) rfl (g7) (hE 8 (by kernel_rfl)) (cellsZ r) _ (rgr.out w hS) Try.underlying24 rfl ilr.out ⟨dOf.of 42 rfl ⟨r, Rr.out, Fr.out, rfl⟩, hS⟩) ?_
    refine FSteps.cons (FStep.go 40 rfl rfl (fun _ h => h) fun a w hS hE => OpTo.call #[a.tmps.getD 41 undef, a.tmps.getD 42 undef] rfl Try.func18 (by kernel_rfl) (by kernel_rfl) (args2 ..) ((mul_v (hE 41 (by kernel_rfl)) (hE 42 (by kernel_rfl)) w).mono fun _ _ h => Gives.to hS 43 rfl (fun _ h => h) h)) ?_
    refine FSteps.cons (FStep.go 40 rfl rfl (fun _ h => h) fun a w hS hE => OpTo.row _ (.tmp 7) rfl (g5) (hE 7 (by kernel_rfl)) (cellsZ m) _ (rgm.out w hS) Try.underlying24 rfl ilm.out ⟨dOf.of 44 rfl ⟨m, Rm.out, Fm.out, rfl⟩, hS⟩) ?_
    refine FSteps.cons (FStep.go 40 rfl rfl (fun _ h => h) fun a w hS hE => OpTo.call #[a.tmps.getD 43 undef, a.tmps.getD 44 undef] rfl Try.func22 (by kernel_rfl) (by kernel_rfl) (args2 ..) ((same_v (hE 43 (by kernel_rfl)) (hE 44 (by kernel_rfl)) K45.out w).mono fun _ _ h => Gives.to hS 45 rfl (fun _ h => h) h)) ?_
    refine FSteps.cons (FStep.go 40 rfl rfl (fun _ h => h) fun a w hS hE => OpTo.not true rfl (hE 45 (by kernel_rfl)) ⟨dOf.of 46 rfl (Eq.refl (Value.bool false)), hS⟩) ?_
    refine FSteps.cons (FStep.plain rfl fun a w hS hE => OpTo.pick false rfl (hE 40 (by kernel_rfl)) ⟨dOf.of 47 rfl (hE 46 (by kernel_rfl)), hS⟩) ?_
    refine FSteps.cons (FStep.plain rfl fun a w hS hE => OpTo.move rfl ⟨dOf.of 48 rfl (hE 47 (by kernel_rfl)), hS⟩) ?_
    refine FSteps.cons (FStep.go 48 rfl rfl (fun _ h => h) fun a w hS hE => OpTo.row _ (.tmp 8) rfl (g7) (hE 8 (by kernel_rfl)) (cellsZ r) _ (rgr.out w hS) Try.underlying24 rfl ilr.out ⟨dOf.of 49 rfl ⟨r, Rr.out, Fr.out, rfl⟩, hS⟩) ?_
    refine FSteps.cons (FStep.go 48 rfl rfl (fun _ h => h) fun a w hS hE => OpTo.row _ (.tmp 5) rfl (g3) (hE 5 (by kernel_rfl)) (cellsZ p) _ (rgp.out w hS) Try.underlying24 rfl ilp.out ⟨dOf.of 50 rfl ⟨p, Rp.out, Fp.out, rfl⟩, hS⟩) ?_
    refine FSteps.cons (FStep.go 48 rfl rfl (fun _ h => h) fun a w hS hE => OpTo.call #[a.tmps.getD 49 undef, a.tmps.getD 50 undef] rfl Try.func22 (by kernel_rfl) (by kernel_rfl) (args2 ..) ((same_v (hE 49 (by kernel_rfl)) (hE 50 (by kernel_rfl)) K51.out w).mono fun _ _ h => Gives.to hS 51 rfl (fun _ h => h) h)) ?_
    refine FSteps.cons (FStep.go 48 rfl rfl (fun _ h => h) fun a w hS hE => OpTo.not false rfl (hE 51 (by kernel_rfl)) ⟨dOf.of 52 rfl (Eq.refl (Value.bool true)), hS⟩) ?_
    refine FSteps.cons (FStep.go 48 rfl rfl (fun _ h => h) fun a w hS hE => OpTo.move rfl ⟨dOf.of 53 rfl (hE 52 (by kernel_rfl)), hS⟩) ?_
    refine FSteps.cons (FStep.go 53 rfl rfl (fun _ h => h) fun a w hS hE => OpTo.row _ (.tmp 8) rfl (g7) (hE 8 (by kernel_rfl)) (cellsZ r) _ (rgr.out w hS) Try.underlying24 rfl ilr.out ⟨dOf.of 54 rfl ⟨r, Rr.out, Fr.out, rfl⟩, hS⟩) ?_
    refine FSteps.cons (FStep.go 53 rfl rfl (fun _ h => h) fun a w hS hE => OpTo.call #[a.tmps.getD 54 undef] rfl Try.func20 (by kernel_rfl) (by kernel_rfl) (args1 ..) ((neg_v (hE 54 (by kernel_rfl)) w).mono fun _ _ h => Gives.to hS 55 rfl (fun _ h => h) h)) ?_
    refine FSteps.cons (FStep.go 53 rfl rfl (fun _ h => h) fun a w hS hE => OpTo.row _ (.tmp 5) rfl (g3) (hE 5 (by kernel_rfl)) (cellsZ p) _ (rgp.out w hS) Try.underlying24 rfl ilp.out ⟨dOf.of 56 rfl ⟨p, Rp.out, Fp.out, rfl⟩, hS⟩) ?_
    refine FSteps.cons (FStep.go 53 rfl rfl (fun _ h => h) fun a w hS hE => OpTo.call #[a.tmps.getD 55 undef, a.tmps.getD 56 undef] rfl Try.func22 (by kernel_rfl) (by kernel_rfl) (args2 ..) ((same_v (hE 55 (by kernel_rfl)) (hE 56 (by kernel_rfl)) K57.out w).mono fun _ _ h => Gives.to hS 57 rfl (fun _ h => h) h)) ?_
    refine FSteps.cons (FStep.go 53 rfl rfl (fun _ h => h) fun a w hS hE => OpTo.not true rfl (hE 57 (by kernel_rfl)) ⟨dOf.of 58 rfl (Eq.refl (Value.bool false)), hS⟩) ?_
    refine FSteps.cons (FStep.go 48 rfl rfl (fun _ h => h) fun a w hS hE => OpTo.pick true rfl (hE 53 (by kernel_rfl)) ⟨dOf.of 59 rfl (hE 58 (by kernel_rfl)), hS⟩) ?_
    refine FSteps.cons (FStep.plain rfl fun a w hS hE => OpTo.pick false rfl (hE 48 (by kernel_rfl)) ⟨dOf.of 60 rfl (hE 59 (by kernel_rfl)), hS⟩) ?_
    refine FSteps.cons (FStep.plain rfl fun a w hS hE => OpTo.move rfl ⟨dOf.of 61 rfl (hE 60 (by kernel_rfl)), hS⟩) ?_
    refine FSteps.cons (FStep.go 61 rfl rfl (fun _ h => h) fun a w hS hE => OpTo.move rfl ⟨dOf.of 62 rfl (hE 11 (by kernel_rfl)), hS⟩) ?_
    refine FSteps.cons (FStep.go 61 rfl rfl (fun _ h => h) fun a w hS hE => OpTo.not true rfl (hE 62 (by kernel_rfl)) ⟨dOf.of 63 rfl (Eq.refl (Value.bool false)), hS⟩) ?_
    refine FSteps.cons (FStep.plain rfl fun a w hS hE => OpTo.pick false rfl (hE 61 (by kernel_rfl)) ⟨dOf.of 64 rfl (hE 63 (by kernel_rfl)), hS⟩) ?_
    refine FSteps.cons (FStep.plain rfl fun a w hS hE => OpTo.move rfl ⟨dOf.of 65 rfl (hE 64 (by kernel_rfl)), hS⟩) ?_
    refine FSteps.cons (FStep.go 65 rfl rfl (fun _ h => h) fun a w hS hE => OpTo.row _ (.tmp 10) rfl (g10) (hE 10 (by kernel_rfl)) (cellsZ n) _ (rgn.out w hS) Try.underlying24 rfl iln.out ⟨dOf.of 66 rfl ⟨n, Rn.out, Fn.out, rfl⟩, hS⟩) ?_
    refine FSteps.cons (FStep.go 65 rfl rfl (fun _ h => h) fun a w hS hE => OpTo.row _ (.tmp 10) rfl (g10) (hE 10 (by kernel_rfl)) (cellsZ n) _ (rgn.out w hS) Try.underlying24 rfl iln.out ⟨dOf.of 67 rfl ⟨n, Rn.out, Fn.out, rfl⟩, hS⟩) ?_
    refine FSteps.cons (FStep.go 65 rfl rfl (fun _ h => h) fun a w hS hE => OpTo.call #[a.tmps.getD 66 undef, a.tmps.getD 67 undef] rfl Try.func18 (by kernel_rfl) (by kernel_rfl) (args2 ..) ((mul_v (hE 66 (by kernel_rfl)) (hE 67 (by kernel_rfl)) w).mono fun _ _ h => Gives.to hS 68 rfl (fun _ h => h) h)) ?_
    refine FSteps.cons (FStep.go 65 rfl rfl (fun _ h => h) fun a w hS hE => OpTo.row _ (.tmp 7) rfl (g5) (hE 7 (by kernel_rfl)) (cellsZ m) _ (rgm.out w hS) Try.underlying24 rfl ilm.out ⟨dOf.of 69 rfl ⟨m, Rm.out, Fm.out, rfl⟩, hS⟩) ?_
    refine FSteps.cons (FStep.go 65 rfl rfl (fun _ h => h) fun a w hS hE => OpTo.call #[a.tmps.getD 69 undef] rfl Try.func20 (by kernel_rfl) (by kernel_rfl) (args1 ..) ((neg_v (hE 69 (by kernel_rfl)) w).mono fun _ _ h => Gives.to hS 70 rfl (fun _ h => h) h)) ?_
    refine FSteps.cons (FStep.go 65 rfl rfl (fun _ h => h) fun a w hS hE => OpTo.call #[a.tmps.getD 68 undef, a.tmps.getD 70 undef] rfl Try.func22 (by kernel_rfl) (by kernel_rfl) (args2 ..) ((same_v (hE 68 (by kernel_rfl)) (hE 70 (by kernel_rfl)) K71.out w).mono fun _ _ h => Gives.to hS 71 rfl (fun _ h => h) h)) ?_
    refine FSteps.cons (FStep.go 65 rfl rfl (fun _ h => h) fun a w hS hE => OpTo.not true rfl (hE 71 (by kernel_rfl)) ⟨dOf.of 72 rfl (Eq.refl (Value.bool false)), hS⟩) ?_
    refine FSteps.cons (FStep.plain rfl fun a w hS hE => OpTo.pick false rfl (hE 65 (by kernel_rfl)) ⟨dOf.of 73 rfl (hE 72 (by kernel_rfl)), hS⟩) ?_
    exact FSteps.nil
  intro f wx hS hF
  obtain ⟨h73, -⟩ := hF
  replace h73 : f 73 = .bool false := h73
  (try unfold Act.put)
  simp only [setAll, List.setIfInBounds_toArray, List.set_cons_zero, List.set_cons_succ, h73]
  replace Bp := Lib.hid (Bp.out.touch hS (by simp))
  replace Bq := Lib.hid (Bq.out.touch hS (by simp))
  replace Bm := Lib.hid (Bm.out.touch hS (by simp))
  replace Br := Lib.hid (Br.out.touch hS (by simp))
  replace Bn := Lib.hid (Bn.out.touch hS (by simp))
  replace HT := Lib.hid (HT.out.trans hS)
  clear hS rgp rgm rgr rgn h73
  rename World => w11
  go_upto_region 7 with fail
  go_wp2_with (first | (refine wpList_loadE rfl (.tmp 5) rfl (g3) rfl _ p Rp.out.len Bp.out ?_) | (refine wpList_loadE rfl (.tmp 6) rfl (g3 + 1) rfl _ q Rq.out.len Bq.out ?_) | (refine wpList_loadE rfl (.tmp 7) rfl (g5) rfl _ m Rm.out.len Bm.out ?_) | (refine wpList_loadE rfl (.tmp 8) rfl (g7) rfl _ r Rr.out.len Br.out ?_) | (refine wpList_loadE rfl (.tmp 10) rfl (g10) rfl _ n Rn.out.len Bn.out ?_))
  refine (root_b (b := true) Rq.out (by rw [Fq.out]; exact NY.out) _).mono ?_
  rintro e ws12 ⟨s, hs, hfs, rfl, ht⟩
  have Rs := Lib.hid hs
  have Fs := Lib.hid (show fe s = rootN Y by rw [hfs, Fq.out])
  replace Bp := Lib.hid (Bp.out.touch ht (by simp))
  replace Bq := Lib.hid (Bq.out.touch ht (by simp))
  replace Bm := Lib.hid (Bm.out.touch ht (by simp))
  replace Br := Lib.hid (Br.out.touch ht (by simp))
  replace Bn := Lib.hid (Bn.out.touch ht (by simp))
  replace HT := Lib.hid (HT.out.trans ht)
  clear hs hfs ht
  go_upto_region 8 with (first | (refine wpList_storeE rfl (.tmp 12) (.tmp 77) rfl (ws12.heap.size) rfl s rfl 24 _ Rs.out.len rfl (z1_0 ws12) ?_))
  obtain ⟨bs, bt⟩ := boxed1 ws12 s
  obtain ⟨w13, hw13⟩ : ∃ w13, w13 = ((ws12.alloc (.cells #[.int .i64 0, .int .i64 0, .int .i64 0, .int .i64 0, .int .i64 0, .int .i64 0, .int .i64 0, .int .i64 0, .int .i64 0, .int .i64 0, .int .i64 0, .int .i64 0, .int .i64 0, .int .i64 0, .int .i64 0, .int .i64 0] 24)).setRow (ws12.heap.size) (cellsZ s).toArray) := ⟨_, rfl⟩
  obtain ⟨g13, hg⟩ : ∃ g13, g13 = ws12.heap.size := ⟨_, rfl⟩
  rw [← hw13, ← hg] at bs
  rw [← hw13] at bt ⊢
  rw [← hg]
  replace Bp := Lib.hid (Bp.out.touch bt (by simp))
  replace Bq := Lib.hid (Bq.out.touch bt (by simp))
  replace Bm := Lib.hid (Bm.out.touch bt (by simp))
  replace Br := Lib.hid (Br.out.touch bt (by simp))
  replace Bn := Lib.hid (Bn.out.touch bt (by simp))
  replace HT := Lib.hid (HT.out.trans bt)
  have Bs := Lib.hid bs
  have ils := Lib.hid (infoL Rs.out)
  clear bs bt hw13 hg
  go_wp2_with (first | (refine wpList_loadE rfl (.tmp 5) rfl (g3) rfl _ p Rp.out.len Bp.out ?_) | (refine wpList_loadE rfl (.tmp 6) rfl (g3 + 1) rfl _ q Rq.out.len Bq.out ?_) | (refine wpList_loadE rfl (.tmp 7) rfl (g5) rfl _ m Rm.out.len Bm.out ?_) | (refine wpList_loadE rfl (.tmp 8) rfl (g7) rfl _ r Rr.out.len Br.out ?_) | (refine wpList_loadE rfl (.tmp 10) rfl (g10) rfl _ n Rn.out.len Bn.out ?_) | (refine wpList_loadE rfl (.tmp 12) rfl (g13) rfl _ s Rs.out.len Bs.out ?_))
  refine (mul_any q m Rq.out Rm.out _).mono ?_
  rintro e wu14 ⟨u, hu, hfu, rfl, ht⟩
  have Ru := Lib.hid hu
  have Fu := Lib.hid (show fe u = mulF Y (mulF X X) by rw [hfu, Fq.out, Fm.out])
  replace Bp := Lib.hid (Bp.out.touch ht (by simp))
  replace Bq := Lib.hid (Bq.out.touch ht (by simp))
  replace Bm := Lib.hid (Bm.out.touch ht (by simp))
  replace Br := Lib.hid (Br.out.touch ht (by simp))
  replace Bn := Lib.hid (Bn.out.touch ht (by simp))
  replace Bs := Lib.hid (Bs.out.touch ht (by simp))
  replace HT := Lib.hid (HT.out.trans ht)
  clear hu hfu ht
  go_wp2_with (first | (refine wpList_loadE rfl (.tmp 5) rfl (g3) rfl _ p Rp.out.len Bp.out ?_) | (refine wpList_loadE rfl (.tmp 6) rfl (g3 + 1) rfl _ q Rq.out.len Bq.out ?_) | (refine wpList_loadE rfl (.tmp 7) rfl (g5) rfl _ m Rm.out.len Bm.out ?_) | (refine wpList_loadE rfl (.tmp 8) rfl (g7) rfl _ r Rr.out.len Br.out ?_) | (refine wpList_loadE rfl (.tmp 10) rfl (g10) rfl _ n Rn.out.len Bn.out ?_) | (refine wpList_loadE rfl (.tmp 12) rfl (g13) rfl _ s Rs.out.len Bs.out ?_))
  refine (root_b (b := true) Ru.out (by rw [Fu.out]; exact NB.out) _).mono ?_
  rintro e wz15 ⟨z, hz, hfz, rfl, ht⟩
  have Rz := Lib.hid hz
  have Fz := Lib.hid (show fe z = rootN (mulF Y (mulF X X)) by rw [hfz, Fu.out])
  replace Bp := Lib.hid (Bp.out.touch ht (by simp))
  replace Bq := Lib.hid (Bq.out.touch ht (by simp))
  replace Bm := Lib.hid (Bm.out.touch ht (by simp))
  replace Br := Lib.hid (Br.out.touch ht (by simp))
  replace Bn := Lib.hid (Bn.out.touch ht (by simp))
  replace Bs := Lib.hid (Bs.out.touch ht (by simp))
  replace HT := Lib.hid (HT.out.trans ht)
  clear hz hfz ht
  go_upto_region 9 with (first | (refine wpList_storeE rfl (.tmp 14) (.tmp 84) rfl (wz15.heap.size) rfl z rfl 24 _ Rz.out.len rfl (z1_0 wz15) ?_))
  obtain ⟨bz, bt⟩ := boxed1 wz15 z
  obtain ⟨w16, hw16⟩ : ∃ w16, w16 = ((wz15.alloc (.cells #[.int .i64 0, .int .i64 0, .int .i64 0, .int .i64 0, .int .i64 0, .int .i64 0, .int .i64 0, .int .i64 0, .int .i64 0, .int .i64 0, .int .i64 0, .int .i64 0, .int .i64 0, .int .i64 0, .int .i64 0, .int .i64 0] 24)).setRow (wz15.heap.size) (cellsZ z).toArray) := ⟨_, rfl⟩
  obtain ⟨g16, hg⟩ : ∃ g16, g16 = wz15.heap.size := ⟨_, rfl⟩
  rw [← hw16, ← hg] at bz
  rw [← hw16] at bt ⊢
  rw [← hg]
  replace Bp := Lib.hid (Bp.out.touch bt (by simp))
  replace Bq := Lib.hid (Bq.out.touch bt (by simp))
  replace Bm := Lib.hid (Bm.out.touch bt (by simp))
  replace Br := Lib.hid (Br.out.touch bt (by simp))
  replace Bn := Lib.hid (Bn.out.touch bt (by simp))
  replace Bs := Lib.hid (Bs.out.touch bt (by simp))
  replace HT := Lib.hid (HT.out.trans bt)
  have Bz := Lib.hid bz
  have ilz := Lib.hid (infoL Rz.out)
  clear bz bt hw16 hg
  have rgp := Lib.hid (range_far Bp.out)
  have rgq := Lib.hid (range_far Bq.out)
  have rgs := Lib.hid (range_far Bs.out)
  refine wp_region_flow (by kernel_rfl) (fun W => Touch [] w16 W) (look [(4, isB true), (5, isP (g3)), (6, isP (g3 + 1)), (12, isP (g13)), (13, isB true), (15, isB true), (86, isB true), (87, isB true), (88, isB true), (89, EV (X)), (90, isB false), (91, isB true), (92, isB true), (93, isB true), (94, isU), (95, isU), (96, isU), (97, isU), (98, isU), (99, isB true), (100, isB true), (101, isB true), (102, isB true), (103, isB false), (104, isB false), (105, EV (rootN Y)), (106, EV (rootN Y)), (107, EV (mulF (rootN Y) (rootN Y))), (108, EV (Y)), (109, isB true), (110, isB true), (111, EV (rootN Y)), (112, isB false), (113, isB true), (114, isB true), (115, isB true), (116, isB true), (117, isB true), (118, isB true), (119, isB true)]) [5, 6, 12, 13, 15] [86, 87, 88, 89, 90, 91, 92, 93, 94, 95, 96, 97, 98, 99, 100, 101, 102, 103, 104, 105, 106, 107, 108, 109, 110, 111, 112, 113, 114, 115, 116, 117, 118, 119, 4] [4] (by kernel_rfl) (by kernel_rfl) (by kernel_rfl) (by kernel_rfl) (by first | exact (Touch.refl _ _).drew | assumption) ⟨rfl, rfl, rfl, rfl, rfl, trivial⟩ ?_ ?_
  · refine FSteps.cons (FStep.plain rfl fun a w hS hE => OpTo.move rfl ⟨dOf.of 86 rfl (hE 13 (by kernel_rfl)), hS⟩) ?_
    refine FSteps.cons (FStep.plain rfl fun a w hS hE => OpTo.move rfl ⟨dOf.of 87 rfl (hE 15 (by kernel_rfl)), hS⟩) ?_
    refine FSteps.cons (FStep.plain rfl fun a w hS hE => OpTo.move rfl ⟨dOf.of 88 rfl (hE 87 (by kernel_rfl)), hS⟩) ?_
    refine FSteps.cons (FStep.go 88 rfl rfl (fun _ h => h) fun a w hS hE => OpTo.row _ (.tmp 5) rfl (g3) (hE 5 (by kernel_rfl)) (cellsZ p) _ (rgp.out w hS) Try.underlying24 rfl ilp.out ⟨dOf.of 89 rfl ⟨p, Rp.out, Fp.out, rfl⟩, hS⟩) ?_
    refine FSteps.cons (FStep.go 88 rfl rfl (fun _ h => h) fun a w hS hE => OpTo.call #[a.tmps.getD 89 undef] rfl Try.func25 (by kernel_rfl) (by kernel_rfl) (args1 ..) ((zero_v (hE 89 (by kernel_rfl)) K90.out w).mono fun _ _ h => Gives.to hS 90 rfl (fun _ h => h) h)) ?_
    refine FSteps.cons (FStep.go 88 rfl rfl (fun _ h => h) fun a w hS hE => OpTo.not false rfl (hE 90 (by kernel_rfl)) ⟨dOf.of 91 rfl (Eq.refl (Value.bool true)), hS⟩) ?_
    refine FSteps.cons (FStep.plain rfl fun a w hS hE => OpTo.pick true rfl (hE 88 (by kernel_rfl)) ⟨dOf.of 92 rfl (hE 91 (by kernel_rfl)), hS⟩) ?_
    refine FSteps.cons (FStep.plain rfl fun a w hS hE => OpTo.move rfl ⟨dOf.of 93 rfl (hE 92 (by kernel_rfl)), hS⟩) ?_
    refine FSteps.cons (FStep.no 93 rfl rfl (fun _ h => h) (dOf.of 94 rfl rfl)) ?_
    refine FSteps.cons (FStep.no 93 rfl rfl (fun _ h => h) (dOf.of 95 rfl rfl)) ?_
    refine FSteps.cons (FStep.no 93 rfl rfl (fun _ h => h) (dOf.of 96 rfl rfl)) ?_
    refine FSteps.cons (FStep.noU 96 rfl rfl (fun _ h => h) (dOf.of 97 rfl rfl)) ?_
    refine FSteps.cons (FStep.no 93 rfl rfl (fun _ h => h) (dOf.of 98 rfl rfl)) ?_
    refine FSteps.cons (FStep.plain rfl fun a w hS hE => OpTo.pick true rfl (hE 93 (by kernel_rfl)) ⟨dOf.of 99 rfl (Eq.refl (Value.bool true)), hS⟩) ?_
    refine FSteps.cons (FStep.plain rfl fun a w hS hE => OpTo.eqB Try.underlying4 true true rfl (hE 86 (by kernel_rfl)) (hE 99 (by kernel_rfl)) ⟨dOf.of 100 rfl (Eq.refl (Value.bool true)), hS⟩) ?_
    refine FSteps.cons (FStep.plain rfl fun a w hS hE => OpTo.move rfl ⟨dOf.of 101 rfl (hE 100 (by kernel_rfl)), hS⟩) ?_
    refine FSteps.cons (FStep.go 101 rfl rfl (fun _ h => h) fun a w hS hE => OpTo.move rfl ⟨dOf.of 102 rfl (hE 13 (by kernel_rfl)), hS⟩) ?_
    refine FSteps.cons (FStep.go 101 rfl rfl (fun _ h => h) fun a w hS hE => OpTo.not true rfl (hE 102 (by kernel_rfl)) ⟨dOf.of 103 rfl (Eq.refl (Value.bool false)), hS⟩) ?_
    refine FSteps.cons (FStep.go 101 rfl rfl (fun _ h => h) fun a w hS hE => OpTo.move rfl ⟨dOf.of 104 rfl (hE 103 (by kernel_rfl)), hS⟩) ?_
    refine FSteps.cons (FStep.go 104 rfl rfl (fun _ h => h) fun a w hS hE => OpTo.row _ (.tmp 12) rfl (g13) (hE 12 (by kernel_rfl)) (cellsZ s) _ (rgs.out w hS) Try.underlying24 rfl ils.out ⟨dOf.of 105 rfl ⟨s, Rs.out, Fs.out, rfl⟩, hS⟩) ?_
    refine FSteps.cons (FStep.go 104 rfl rfl (fun _ h => h) fun a w hS hE => OpTo.row _ (.tmp 12) rfl (g13) (hE 12 (by kernel_rfl)) (cellsZ s) _ (rgs.out w hS) Try.underlying24 rfl ils.out ⟨dOf.of 106 rfl ⟨s, Rs.out, Fs.out, rfl⟩, hS⟩) ?_
    refine FSteps.cons (FStep.go 104 rfl rfl (fun _ h => h) fun a w hS hE => OpTo.call #[a.tmps.getD 105 undef, a.tmps.getD 106 undef] rfl Try.func18 (by kernel_rfl) (by kernel_rfl) (args2 ..) ((mul_v (hE 105 (by kernel_rfl)) (hE 106 (by kernel_rfl)) w).mono fun _ _ h => Gives.to hS 107 rfl (fun _ h => h) h)) ?_
    refine FSteps.cons (FStep.go 104 rfl rfl (fun _ h => h) fun a w hS hE => OpTo.row _ (.tmp 6) rfl (g3 + 1) (hE 6 (by kernel_rfl)) (cellsZ q) _ (rgq.out w hS) Try.underlying24 rfl ilq.out ⟨dOf.of 108 rfl ⟨q, Rq.out, Fq.out, rfl⟩, hS⟩) ?_
    refine FSteps.cons (FStep.go 104 rfl rfl (fun _ h => h) fun a w hS hE => OpTo.call #[a.tmps.getD 107 undef, a.tmps.getD 108 undef] rfl Try.func22 (by kernel_rfl) (by kernel_rfl) (args2 ..) ((same_v (hE 107 (by kernel_rfl)) (hE 108 (by kernel_rfl)) K109.out w).mono fun _ _ h => Gives.to hS 109 rfl (fun _ h => h) h)) ?_
    refine FSteps.cons (FStep.go 104 rfl rfl (fun _ h => h) fun a w hS hE => OpTo.move rfl ⟨dOf.of 110 rfl (hE 109 (by kernel_rfl)), hS⟩) ?_
    refine FSteps.cons (FStep.go 110 rfl rfl (fun _ h => h) fun a w hS hE => OpTo.row _ (.tmp 12) rfl (g13) (hE 12 (by kernel_rfl)) (cellsZ s) _ (rgs.out w hS) Try.underlying24 rfl ils.out ⟨dOf.of 111 rfl ⟨s, Rs.out, Fs.out, rfl⟩, hS⟩) ?_
    refine FSteps.cons (FStep.go 110 rfl rfl (fun _ h => h) fun a w hS hE => OpTo.call #[a.tmps.getD 111 undef] rfl Try.func23 (by kernel_rfl) (by kernel_rfl) (args1 ..) ((odd_v (hE 111 (by kernel_rfl)) K112.out w).mono fun _ _ h => Gives.to hS 112 rfl (fun _ h => h) h)) ?_
    refine FSteps.cons (FStep.go 110 rfl rfl (fun _ h => h) fun a w hS hE => OpTo.not false rfl (hE 112 (by kernel_rfl)) ⟨dOf.of 113 rfl (Eq.refl (Value.bool true)), hS⟩) ?_
    refine FSteps.cons (FStep.go 104 rfl rfl (fun _ h => h) fun a w hS hE => OpTo.pick true rfl (hE 110 (by kernel_rfl)) ⟨dOf.of 114 rfl (hE 113 (by kernel_rfl)), hS⟩) ?_
    refine FSteps.cons (FStep.go 101 rfl rfl (fun _ h => h) fun a w hS hE => OpTo.pick false rfl (hE 104 (by kernel_rfl)) ⟨dOf.of 115 rfl (hE 114 (by kernel_rfl)), hS⟩) ?_
    refine FSteps.cons (FStep.plain rfl fun a w hS hE => OpTo.pick true rfl (hE 101 (by kernel_rfl)) ⟨dOf.of 116 rfl (hE 115 (by kernel_rfl)), hS⟩) ?_
    refine FSteps.cons (FStep.plain rfl fun a w hS hE => OpTo.move rfl ⟨dOf.of 117 rfl (hE 116 (by kernel_rfl)), hS⟩) ?_
    refine FSteps.cons (FStep.go 117 rfl rfl (fun _ h => h) fun a w hS hE => OpTo.call #[] rfl Try.func27 (by kernel_rfl) (by kernel_rfl) (args0 ..) ((fixed_v hfix w).mono fun _ _ h => Gives.to hS 118 rfl (fun _ h => h) h)) ?_
    refine FSteps.cons (FStep.plain rfl fun a w hS hE => OpTo.pick true rfl (hE 117 (by kernel_rfl)) ⟨dOf.of 119 rfl (hE 118 (by kernel_rfl)), hS⟩) ?_
    refine FSteps.cons (FStep.plain rfl fun a w hS hE => OpTo.assign rfl ⟨dOf.of 4 rfl (hE 119 (by kernel_rfl)), hS⟩) ?_
    exact FSteps.nil
  intro f wx hS hF
  obtain ⟨h4, -⟩ := hF
  replace h4 : f 4 = .bool true := h4
  (try unfold Act.put)
  simp only [setAll, List.setIfInBounds_toArray, List.set_cons_zero, List.set_cons_succ, h4]
  replace Bp := Lib.hid (Bp.out.touch hS (by simp))
  replace Bq := Lib.hid (Bq.out.touch hS (by simp))
  replace Bm := Lib.hid (Bm.out.touch hS (by simp))
  replace Br := Lib.hid (Br.out.touch hS (by simp))
  replace Bn := Lib.hid (Bn.out.touch hS (by simp))
  replace Bs := Lib.hid (Bs.out.touch hS (by simp))
  replace Bz := Lib.hid (Bz.out.touch hS (by simp))
  replace HT := Lib.hid (HT.out.trans hS)
  clear hS rgp rgq rgs h4
  rename World => w17
  
  go_wp2_with fail
  go_ret
  exact ⟨rfl, HT.out⟩
set_option maxRecDepth 100000 in
set_option maxHeartbeats 4000000 in
theorem fsq_ff (hfix : FixedOk) (a b : ByteArray) (w : World) (X Y : Nat) (HX : Hid (cutN a = X)) (HY : Hid (cutN b = Y)) (lX : X < PP) (lY : Y < PP) (hR : ¬ rootN (mulF X X) = X) (h0 : ¬ X = 0) (hN : isN Y = false) : Calls Try.prog 8 #[.string a, .string b] w fun e w' => e = .returned (.bool true) ∧ Touch [] w w' := by
  have hq : isN (mulF X X) = true := sq_isN lX rfl
  have NQ := Lib.hid hq
  have NM := Lib.hid (neg_isN X)
  have NY := Lib.hid hN
  have K38 := Lib.hid (show decide (rootN (mulF X X) % 2 = 1) = false from decide_eq_false (root_even _))
  have K45 := Lib.hid (show decide (mulF (rootN (mulF X X)) (rootN (mulF X X)) = mulF X X) = true from decide_eq_true (root_sq hq))
  have K51 := Lib.hid (show decide (rootN (mulF X X) = X) = false from decide_eq_false (hR))
  have K57 := Lib.hid (show decide (negF (rootN (mulF X X)) = X) = true from decide_eq_true (root_of_sq lX hR))
  have K71 := Lib.hid (show decide (mulF (rootN (negF (mulF X X))) (rootN (negF (mulF X X))) = negF (mulF X X)) = true from decide_eq_true (root_sq (neg_isN X)))
  have K90 := Lib.hid (show decide (X = 0) = false from decide_eq_false (h0))
  have NB := Lib.hid (show isN (mulF Y (mulF X X)) = false by rw [mul_isN lX lY h0]; exact hN)
  clear hq hR h0 hN lX lY
  have HT := Lib.hid (Touch.refl [] w)
  go_enter Try.func8, Try.ntmps8
  go_wp2_with fail
  refine (cut_anyE a _).mono ?_
  rintro e wp1 ⟨p, hp, hfp, rfl, ht⟩
  have Rp := Lib.hid hp
  have Fp := Lib.hid (show fe p = X by rw [hfp, HX.out])
  replace HT := Lib.hid (HT.out.trans ht)
  clear hp hfp ht
  go_wp2_with fail
  refine (cut_anyE b _).mono ?_
  rintro e wq2 ⟨q, hq, hfq, rfl, ht⟩
  have Rq := Lib.hid hq
  have Fq := Lib.hid (show fe q = Y by rw [hfq, HY.out])
  replace HT := Lib.hid (HT.out.trans ht)
  clear hq hfq ht
  go_upto_region 2 with (first | (refine wpList_storeE rfl (.tmp 5) (.tmp 17) rfl (wq2.heap.size) rfl p rfl 24 _ Rp.out.len rfl (z2_0 wq2) ?_) | (refine wpList_storeE rfl (.tmp 6) (.tmp 19) rfl (wq2.heap.size + 1) rfl q rfl 24 _ Rq.out.len rfl (Blk.frow (z2_1 wq2) (by omega) _) ?_))
  obtain ⟨bp, bq, bt⟩ := boxed2 wq2 p q
  obtain ⟨w3, hw3⟩ : ∃ w3, w3 = ((((wq2.alloc (.cells #[.int .i64 0, .int .i64 0, .int .i64 0, .int .i64 0, .int .i64 0, .int .i64 0, .int .i64 0, .int .i64 0, .int .i64 0, .int .i64 0, .int .i64 0, .int .i64 0, .int .i64 0, .int .i64 0, .int .i64 0, .int .i64 0] 24)).alloc (.cells #[.int .i64 0, .int .i64 0, .int .i64 0, .int .i64 0, .int .i64 0, .int .i64 0, .int .i64 0, .int .i64 0, .int .i64 0, .int .i64 0, .int .i64 0, .int .i64 0, .int .i64 0, .int .i64 0, .int .i64 0, .int .i64 0] 24)).setRow (wq2.heap.size) (cellsZ p).toArray).setRow (wq2.heap.size + 1) (cellsZ q).toArray) := ⟨_, rfl⟩
  obtain ⟨g3, hg⟩ : ∃ g3, g3 = wq2.heap.size := ⟨_, rfl⟩
  rw [← hw3, ← hg] at bp bq
  rw [← hw3] at bt ⊢
  rw [← hg]
  replace HT := Lib.hid (HT.out.trans bt)
  have Bp := Lib.hid bp
  have ilp := Lib.hid (infoL Rp.out)
  have Bq := Lib.hid bq
  have ilq := Lib.hid (infoL Rq.out)
  clear bp bq bt hw3 hg
  go_wp2_with (first | (refine wpList_loadE rfl (.tmp 5) rfl (g3) rfl _ p Rp.out.len Bp.out ?_) | (refine wpList_loadE rfl (.tmp 6) rfl (g3 + 1) rfl _ q Rq.out.len Bq.out ?_))
  refine (mul_any p p Rp.out Rp.out _).mono ?_
  rintro e wm4 ⟨m, hm, hfm, rfl, ht⟩
  have Rm := Lib.hid hm
  have Fm := Lib.hid (show fe m = mulF X X by rw [hfm, Fp.out])
  replace Bp := Lib.hid (Bp.out.touch ht (by simp))
  replace Bq := Lib.hid (Bq.out.touch ht (by simp))
  replace HT := Lib.hid (HT.out.trans ht)
  clear hm hfm ht
  go_upto_region 3 with (first | (refine wpList_storeE rfl (.tmp 7) (.tmp 22) rfl (wm4.heap.size) rfl m rfl 24 _ Rm.out.len rfl (z1_0 wm4) ?_))
  obtain ⟨bm, bt⟩ := boxed1 wm4 m
  obtain ⟨w5, hw5⟩ : ∃ w5, w5 = ((wm4.alloc (.cells #[.int .i64 0, .int .i64 0, .int .i64 0, .int .i64 0, .int .i64 0, .int .i64 0, .int .i64 0, .int .i64 0, .int .i64 0, .int .i64 0, .int .i64 0, .int .i64 0, .int .i64 0, .int .i64 0, .int .i64 0, .int .i64 0] 24)).setRow (wm4.heap.size) (cellsZ m).toArray) := ⟨_, rfl⟩
  obtain ⟨g5, hg⟩ : ∃ g5, g5 = wm4.heap.size := ⟨_, rfl⟩
  rw [← hw5, ← hg] at bm
  rw [← hw5] at bt ⊢
  rw [← hg]
  replace Bp := Lib.hid (Bp.out.touch bt (by simp))
  replace Bq := Lib.hid (Bq.out.touch bt (by simp))
  replace HT := Lib.hid (HT.out.trans bt)
  have Bm := Lib.hid bm
  have ilm := Lib.hid (infoL Rm.out)
  clear bm bt hw5 hg
  go_wp2_with (first | (refine wpList_loadE rfl (.tmp 5) rfl (g3) rfl _ p Rp.out.len Bp.out ?_) | (refine wpList_loadE rfl (.tmp 6) rfl (g3 + 1) rfl _ q Rq.out.len Bq.out ?_) | (refine wpList_loadE rfl (.tmp 7) rfl (g5) rfl _ m Rm.out.len Bm.out ?_))
  refine (root_b (b := true) Rm.out (by rw [Fm.out]; exact NQ.out) _).mono ?_
  rintro e wr6 ⟨r, hr, hfr, rfl, ht⟩
  have Rr := Lib.hid hr
  have Fr := Lib.hid (show fe r = rootN (mulF X X) by rw [hfr, Fm.out])
  replace Bp := Lib.hid (Bp.out.touch ht (by simp))
  replace Bq := Lib.hid (Bq.out.touch ht (by simp))
  replace Bm := Lib.hid (Bm.out.touch ht (by simp))
  replace HT := Lib.hid (HT.out.trans ht)
  clear hr hfr ht
  go_upto_region 4 with (first | (refine wpList_storeE rfl (.tmp 8) (.tmp 26) rfl (wr6.heap.size) rfl r rfl 24 _ Rr.out.len rfl (z1_0 wr6) ?_))
  obtain ⟨br, bt⟩ := boxed1 wr6 r
  obtain ⟨w7, hw7⟩ : ∃ w7, w7 = ((wr6.alloc (.cells #[.int .i64 0, .int .i64 0, .int .i64 0, .int .i64 0, .int .i64 0, .int .i64 0, .int .i64 0, .int .i64 0, .int .i64 0, .int .i64 0, .int .i64 0, .int .i64 0, .int .i64 0, .int .i64 0, .int .i64 0, .int .i64 0] 24)).setRow (wr6.heap.size) (cellsZ r).toArray) := ⟨_, rfl⟩
  obtain ⟨g7, hg⟩ : ∃ g7, g7 = wr6.heap.size := ⟨_, rfl⟩
  rw [← hw7, ← hg] at br
  rw [← hw7] at bt ⊢
  rw [← hg]
  replace Bp := Lib.hid (Bp.out.touch bt (by simp))
  replace Bq := Lib.hid (Bq.out.touch bt (by simp))
  replace Bm := Lib.hid (Bm.out.touch bt (by simp))
  replace HT := Lib.hid (HT.out.trans bt)
  have Br := Lib.hid br
  have ilr := Lib.hid (infoL Rr.out)
  clear br bt hw7 hg
  go_wp2_with (first | (refine wpList_loadE rfl (.tmp 5) rfl (g3) rfl _ p Rp.out.len Bp.out ?_) | (refine wpList_loadE rfl (.tmp 6) rfl (g3 + 1) rfl _ q Rq.out.len Bq.out ?_) | (refine wpList_loadE rfl (.tmp 7) rfl (g5) rfl _ m Rm.out.len Bm.out ?_) | (refine wpList_loadE rfl (.tmp 8) rfl (g7) rfl _ r Rr.out.len Br.out ?_))
  refine (neg_anyE m Rm.out _).mono ?_
  rintro e wv8 ⟨v, hv, hfv, rfl, ht⟩
  have Rv := Lib.hid hv
  have Fv := Lib.hid (show fe v = negF (mulF X X) by rw [hfv, Fm.out])
  replace Bp := Lib.hid (Bp.out.touch ht (by simp))
  replace Bq := Lib.hid (Bq.out.touch ht (by simp))
  replace Bm := Lib.hid (Bm.out.touch ht (by simp))
  replace Br := Lib.hid (Br.out.touch ht (by simp))
  replace HT := Lib.hid (HT.out.trans ht)
  clear hv hfv ht
  go_wp2_with (first | (refine wpList_loadE rfl (.tmp 5) rfl (g3) rfl _ p Rp.out.len Bp.out ?_) | (refine wpList_loadE rfl (.tmp 6) rfl (g3 + 1) rfl _ q Rq.out.len Bq.out ?_) | (refine wpList_loadE rfl (.tmp 7) rfl (g5) rfl _ m Rm.out.len Bm.out ?_) | (refine wpList_loadE rfl (.tmp 8) rfl (g7) rfl _ r Rr.out.len Br.out ?_))
  refine (root_b (b := true) Rv.out (by rw [Fv.out]; exact NM.out) _).mono ?_
  rintro e wn9 ⟨n, hn, hfn, rfl, ht⟩
  have Rn := Lib.hid hn
  have Fn := Lib.hid (show fe n = rootN (negF (mulF X X)) by rw [hfn, Fv.out])
  replace Bp := Lib.hid (Bp.out.touch ht (by simp))
  replace Bq := Lib.hid (Bq.out.touch ht (by simp))
  replace Bm := Lib.hid (Bm.out.touch ht (by simp))
  replace Br := Lib.hid (Br.out.touch ht (by simp))
  replace HT := Lib.hid (HT.out.trans ht)
  clear hn hfn ht
  go_upto_region 5 with (first | (refine wpList_storeE rfl (.tmp 10) (.tmp 32) rfl (wn9.heap.size) rfl n rfl 24 _ Rn.out.len rfl (z1_0 wn9) ?_))
  obtain ⟨bn, bt⟩ := boxed1 wn9 n
  obtain ⟨w10, hw10⟩ : ∃ w10, w10 = ((wn9.alloc (.cells #[.int .i64 0, .int .i64 0, .int .i64 0, .int .i64 0, .int .i64 0, .int .i64 0, .int .i64 0, .int .i64 0, .int .i64 0, .int .i64 0, .int .i64 0, .int .i64 0, .int .i64 0, .int .i64 0, .int .i64 0, .int .i64 0] 24)).setRow (wn9.heap.size) (cellsZ n).toArray) := ⟨_, rfl⟩
  obtain ⟨g10, hg⟩ : ∃ g10, g10 = wn9.heap.size := ⟨_, rfl⟩
  rw [← hw10, ← hg] at bn
  rw [← hw10] at bt ⊢
  rw [← hg]
  replace Bp := Lib.hid (Bp.out.touch bt (by simp))
  replace Bq := Lib.hid (Bq.out.touch bt (by simp))
  replace Bm := Lib.hid (Bm.out.touch bt (by simp))
  replace Br := Lib.hid (Br.out.touch bt (by simp))
  replace HT := Lib.hid (HT.out.trans bt)
  have Bn := Lib.hid bn
  have iln := Lib.hid (infoL Rn.out)
  clear bn bt hw10 hg
  have rgp := Lib.hid (range_far Bp.out)
  have rgm := Lib.hid (range_far Bm.out)
  have rgr := Lib.hid (range_far Br.out)
  have rgn := Lib.hid (range_far Bn.out)
  refine wp_region_flow (by kernel_rfl) (fun W => Touch [] w10 W) (look [(5, isP (g3)), (7, isP (g5)), (8, isP (g7)), (9, isB true), (10, isP (g10)), (11, isB true), (34, isB true), (35, isB false), (36, isB false), (37, EV (rootN (mulF X X))), (38, isB false), (39, isB false), (40, isB false), (41, EV (rootN (mulF X X))), (42, EV (rootN (mulF X X))), (43, EV (mulF (rootN (mulF X X)) (rootN (mulF X X)))), (44, EV (mulF X X)), (45, isB true), (46, isB false), (47, isB false), (48, isB false), (49, EV (rootN (mulF X X))), (50, EV (X)), (51, isB false), (52, isB true), (53, isB true), (54, EV (rootN (mulF X X))), (55, EV (negF (rootN (mulF X X)))), (56, EV (X)), (57, isB true), (58, isB false), (59, isB false), (60, isB false), (61, isB false), (62, isB true), (63, isB false), (64, isB false), (65, isB false), (66, EV (rootN (negF (mulF X X)))), (67, EV (rootN (negF (mulF X X)))), (68, EV (mulF (rootN (negF (mulF X X))) (rootN (negF (mulF X X))))), (69, EV (mulF X X)), (70, EV (negF (mulF X X))), (71, isB true), (72, isB false), (73, isB false)]) [5, 7, 8, 9, 10, 11] [34, 35, 36, 37, 38, 39, 40, 41, 42, 43, 44, 45, 46, 47, 48, 49, 50, 51, 52, 53, 54, 55, 56, 57, 58, 59, 60, 61, 62, 63, 64, 65, 66, 67, 68, 69, 70, 71, 72, 73] [73] (by kernel_rfl) (by kernel_rfl) (by kernel_rfl) (by kernel_rfl) (by first | exact (Touch.refl _ _).drew | assumption) ⟨rfl, rfl, rfl, rfl, rfl, rfl, trivial⟩ ?_ ?_
  · refine FSteps.cons (FStep.plain rfl fun a w hS hE => OpTo.move rfl ⟨dOf.of 34 rfl (hE 9 (by kernel_rfl)), hS⟩) ?_
    refine FSteps.cons (FStep.plain rfl fun a w hS hE => OpTo.not true rfl (hE 34 (by kernel_rfl)) ⟨dOf.of 35 rfl (Eq.refl (Value.bool false)), hS⟩) ?_
    refine FSteps.cons (FStep.plain rfl fun a w hS hE => OpTo.move rfl ⟨dOf.of 36 rfl (hE 35 (by kernel_rfl)), hS⟩) ?_
    refine FSteps.cons (FStep.go 36 rfl rfl (fun _ h => h) fun a w hS hE => OpTo.row _ (.tmp 8) rfl (g7) (hE 8 (by kernel_rfl)) (cellsZ r) _ (rgr.out w hS) Try.underlying24 rfl ilr.out ⟨dOf.of 37 rfl ⟨r, Rr.out, Fr.out, rfl⟩, hS⟩) ?_
    refine FSteps.cons (FStep.go 36 rfl rfl (fun _ h => h) fun a w hS hE => OpTo.call #[a.tmps.getD 37 undef] rfl Try.func23 (by kernel_rfl) (by kernel_rfl) (args1 ..) ((odd_v (hE 37 (by kernel_rfl)) K38.out w).mono fun _ _ h => Gives.to hS 38 rfl (fun _ h => h) h)) ?_
    refine FSteps.cons (FStep.plain rfl fun a w hS hE => OpTo.pick false rfl (hE 36 (by kernel_rfl)) ⟨dOf.of 39 rfl (hE 38 (by kernel_rfl)), hS⟩) ?_
    refine FSteps.cons (FStep.plain rfl fun a w hS hE => OpTo.move rfl ⟨dOf.of 40 rfl (hE 39 (by kernel_rfl)), hS⟩) ?_
    refine FSteps.cons (FStep.go 40 rfl rfl (fun _ h => h) fun a w hS hE => OpTo.row _ (.tmp 8) rfl (g7) (hE 8 (by kernel_rfl)) (cellsZ r) _ (rgr.out w hS) Try.underlying24 rfl ilr.out ⟨dOf.of 41 rfl ⟨r, Rr.out, Fr.out, rfl⟩, hS⟩) ?_
    refine FSteps.cons (FStep.go 40 rfl rfl (fun _ h => h) fun a w hS hE => OpTo.row _ (.tmp 8) rfl (g7) (hE 8 (by kernel_rfl)) (cellsZ r) _ (rgr.out w hS) Try.underlying24 rfl ilr.out ⟨dOf.of 42 rfl ⟨r, Rr.out, Fr.out, rfl⟩, hS⟩) ?_
    refine FSteps.cons (FStep.go 40 rfl rfl (fun _ h => h) fun a w hS hE => OpTo.call #[a.tmps.getD 41 undef, a.tmps.getD 42 undef] rfl Try.func18 (by kernel_rfl) (by kernel_rfl) (args2 ..) ((mul_v (hE 41 (by kernel_rfl)) (hE 42 (by kernel_rfl)) w).mono fun _ _ h => Gives.to hS 43 rfl (fun _ h => h) h)) ?_
    refine FSteps.cons (FStep.go 40 rfl rfl (fun _ h => h) fun a w hS hE => OpTo.row _ (.tmp 7) rfl (g5) (hE 7 (by kernel_rfl)) (cellsZ m) _ (rgm.out w hS) Try.underlying24 rfl ilm.out ⟨dOf.of 44 rfl ⟨m, Rm.out, Fm.out, rfl⟩, hS⟩) ?_
    refine FSteps.cons (FStep.go 40 rfl rfl (fun _ h => h) fun a w hS hE => OpTo.call #[a.tmps.getD 43 undef, a.tmps.getD 44 undef] rfl Try.func22 (by kernel_rfl) (by kernel_rfl) (args2 ..) ((same_v (hE 43 (by kernel_rfl)) (hE 44 (by kernel_rfl)) K45.out w).mono fun _ _ h => Gives.to hS 45 rfl (fun _ h => h) h)) ?_
    refine FSteps.cons (FStep.go 40 rfl rfl (fun _ h => h) fun a w hS hE => OpTo.not true rfl (hE 45 (by kernel_rfl)) ⟨dOf.of 46 rfl (Eq.refl (Value.bool false)), hS⟩) ?_
    refine FSteps.cons (FStep.plain rfl fun a w hS hE => OpTo.pick false rfl (hE 40 (by kernel_rfl)) ⟨dOf.of 47 rfl (hE 46 (by kernel_rfl)), hS⟩) ?_
    refine FSteps.cons (FStep.plain rfl fun a w hS hE => OpTo.move rfl ⟨dOf.of 48 rfl (hE 47 (by kernel_rfl)), hS⟩) ?_
    refine FSteps.cons (FStep.go 48 rfl rfl (fun _ h => h) fun a w hS hE => OpTo.row _ (.tmp 8) rfl (g7) (hE 8 (by kernel_rfl)) (cellsZ r) _ (rgr.out w hS) Try.underlying24 rfl ilr.out ⟨dOf.of 49 rfl ⟨r, Rr.out, Fr.out, rfl⟩, hS⟩) ?_
    refine FSteps.cons (FStep.go 48 rfl rfl (fun _ h => h) fun a w hS hE => OpTo.row _ (.tmp 5) rfl (g3) (hE 5 (by kernel_rfl)) (cellsZ p) _ (rgp.out w hS) Try.underlying24 rfl ilp.out ⟨dOf.of 50 rfl ⟨p, Rp.out, Fp.out, rfl⟩, hS⟩) ?_
    refine FSteps.cons (FStep.go 48 rfl rfl (fun _ h => h) fun a w hS hE => OpTo.call #[a.tmps.getD 49 undef, a.tmps.getD 50 undef] rfl Try.func22 (by kernel_rfl) (by kernel_rfl) (args2 ..) ((same_v (hE 49 (by kernel_rfl)) (hE 50 (by kernel_rfl)) K51.out w).mono fun _ _ h => Gives.to hS 51 rfl (fun _ h => h) h)) ?_
    refine FSteps.cons (FStep.go 48 rfl rfl (fun _ h => h) fun a w hS hE => OpTo.not false rfl (hE 51 (by kernel_rfl)) ⟨dOf.of 52 rfl (Eq.refl (Value.bool true)), hS⟩) ?_
    refine FSteps.cons (FStep.go 48 rfl rfl (fun _ h => h) fun a w hS hE => OpTo.move rfl ⟨dOf.of 53 rfl (hE 52 (by kernel_rfl)), hS⟩) ?_
    refine FSteps.cons (FStep.go 53 rfl rfl (fun _ h => h) fun a w hS hE => OpTo.row _ (.tmp 8) rfl (g7) (hE 8 (by kernel_rfl)) (cellsZ r) _ (rgr.out w hS) Try.underlying24 rfl ilr.out ⟨dOf.of 54 rfl ⟨r, Rr.out, Fr.out, rfl⟩, hS⟩) ?_
    refine FSteps.cons (FStep.go 53 rfl rfl (fun _ h => h) fun a w hS hE => OpTo.call #[a.tmps.getD 54 undef] rfl Try.func20 (by kernel_rfl) (by kernel_rfl) (args1 ..) ((neg_v (hE 54 (by kernel_rfl)) w).mono fun _ _ h => Gives.to hS 55 rfl (fun _ h => h) h)) ?_
    refine FSteps.cons (FStep.go 53 rfl rfl (fun _ h => h) fun a w hS hE => OpTo.row _ (.tmp 5) rfl (g3) (hE 5 (by kernel_rfl)) (cellsZ p) _ (rgp.out w hS) Try.underlying24 rfl ilp.out ⟨dOf.of 56 rfl ⟨p, Rp.out, Fp.out, rfl⟩, hS⟩) ?_
    refine FSteps.cons (FStep.go 53 rfl rfl (fun _ h => h) fun a w hS hE => OpTo.call #[a.tmps.getD 55 undef, a.tmps.getD 56 undef] rfl Try.func22 (by kernel_rfl) (by kernel_rfl) (args2 ..) ((same_v (hE 55 (by kernel_rfl)) (hE 56 (by kernel_rfl)) K57.out w).mono fun _ _ h => Gives.to hS 57 rfl (fun _ h => h) h)) ?_
    refine FSteps.cons (FStep.go 53 rfl rfl (fun _ h => h) fun a w hS hE => OpTo.not true rfl (hE 57 (by kernel_rfl)) ⟨dOf.of 58 rfl (Eq.refl (Value.bool false)), hS⟩) ?_
    refine FSteps.cons (FStep.go 48 rfl rfl (fun _ h => h) fun a w hS hE => OpTo.pick true rfl (hE 53 (by kernel_rfl)) ⟨dOf.of 59 rfl (hE 58 (by kernel_rfl)), hS⟩) ?_
    refine FSteps.cons (FStep.plain rfl fun a w hS hE => OpTo.pick false rfl (hE 48 (by kernel_rfl)) ⟨dOf.of 60 rfl (hE 59 (by kernel_rfl)), hS⟩) ?_
    refine FSteps.cons (FStep.plain rfl fun a w hS hE => OpTo.move rfl ⟨dOf.of 61 rfl (hE 60 (by kernel_rfl)), hS⟩) ?_
    refine FSteps.cons (FStep.go 61 rfl rfl (fun _ h => h) fun a w hS hE => OpTo.move rfl ⟨dOf.of 62 rfl (hE 11 (by kernel_rfl)), hS⟩) ?_
    refine FSteps.cons (FStep.go 61 rfl rfl (fun _ h => h) fun a w hS hE => OpTo.not true rfl (hE 62 (by kernel_rfl)) ⟨dOf.of 63 rfl (Eq.refl (Value.bool false)), hS⟩) ?_
    refine FSteps.cons (FStep.plain rfl fun a w hS hE => OpTo.pick false rfl (hE 61 (by kernel_rfl)) ⟨dOf.of 64 rfl (hE 63 (by kernel_rfl)), hS⟩) ?_
    refine FSteps.cons (FStep.plain rfl fun a w hS hE => OpTo.move rfl ⟨dOf.of 65 rfl (hE 64 (by kernel_rfl)), hS⟩) ?_
    refine FSteps.cons (FStep.go 65 rfl rfl (fun _ h => h) fun a w hS hE => OpTo.row _ (.tmp 10) rfl (g10) (hE 10 (by kernel_rfl)) (cellsZ n) _ (rgn.out w hS) Try.underlying24 rfl iln.out ⟨dOf.of 66 rfl ⟨n, Rn.out, Fn.out, rfl⟩, hS⟩) ?_
    refine FSteps.cons (FStep.go 65 rfl rfl (fun _ h => h) fun a w hS hE => OpTo.row _ (.tmp 10) rfl (g10) (hE 10 (by kernel_rfl)) (cellsZ n) _ (rgn.out w hS) Try.underlying24 rfl iln.out ⟨dOf.of 67 rfl ⟨n, Rn.out, Fn.out, rfl⟩, hS⟩) ?_
    refine FSteps.cons (FStep.go 65 rfl rfl (fun _ h => h) fun a w hS hE => OpTo.call #[a.tmps.getD 66 undef, a.tmps.getD 67 undef] rfl Try.func18 (by kernel_rfl) (by kernel_rfl) (args2 ..) ((mul_v (hE 66 (by kernel_rfl)) (hE 67 (by kernel_rfl)) w).mono fun _ _ h => Gives.to hS 68 rfl (fun _ h => h) h)) ?_
    refine FSteps.cons (FStep.go 65 rfl rfl (fun _ h => h) fun a w hS hE => OpTo.row _ (.tmp 7) rfl (g5) (hE 7 (by kernel_rfl)) (cellsZ m) _ (rgm.out w hS) Try.underlying24 rfl ilm.out ⟨dOf.of 69 rfl ⟨m, Rm.out, Fm.out, rfl⟩, hS⟩) ?_
    refine FSteps.cons (FStep.go 65 rfl rfl (fun _ h => h) fun a w hS hE => OpTo.call #[a.tmps.getD 69 undef] rfl Try.func20 (by kernel_rfl) (by kernel_rfl) (args1 ..) ((neg_v (hE 69 (by kernel_rfl)) w).mono fun _ _ h => Gives.to hS 70 rfl (fun _ h => h) h)) ?_
    refine FSteps.cons (FStep.go 65 rfl rfl (fun _ h => h) fun a w hS hE => OpTo.call #[a.tmps.getD 68 undef, a.tmps.getD 70 undef] rfl Try.func22 (by kernel_rfl) (by kernel_rfl) (args2 ..) ((same_v (hE 68 (by kernel_rfl)) (hE 70 (by kernel_rfl)) K71.out w).mono fun _ _ h => Gives.to hS 71 rfl (fun _ h => h) h)) ?_
    refine FSteps.cons (FStep.go 65 rfl rfl (fun _ h => h) fun a w hS hE => OpTo.not true rfl (hE 71 (by kernel_rfl)) ⟨dOf.of 72 rfl (Eq.refl (Value.bool false)), hS⟩) ?_
    refine FSteps.cons (FStep.plain rfl fun a w hS hE => OpTo.pick false rfl (hE 65 (by kernel_rfl)) ⟨dOf.of 73 rfl (hE 72 (by kernel_rfl)), hS⟩) ?_
    exact FSteps.nil
  intro f wx hS hF
  obtain ⟨h73, -⟩ := hF
  replace h73 : f 73 = .bool false := h73
  (try unfold Act.put)
  simp only [setAll, List.setIfInBounds_toArray, List.set_cons_zero, List.set_cons_succ, h73]
  replace Bp := Lib.hid (Bp.out.touch hS (by simp))
  replace Bq := Lib.hid (Bq.out.touch hS (by simp))
  replace Bm := Lib.hid (Bm.out.touch hS (by simp))
  replace Br := Lib.hid (Br.out.touch hS (by simp))
  replace Bn := Lib.hid (Bn.out.touch hS (by simp))
  replace HT := Lib.hid (HT.out.trans hS)
  clear hS rgp rgm rgr rgn h73
  rename World => w11
  go_upto_region 7 with fail
  go_wp2_with (first | (refine wpList_loadE rfl (.tmp 5) rfl (g3) rfl _ p Rp.out.len Bp.out ?_) | (refine wpList_loadE rfl (.tmp 6) rfl (g3 + 1) rfl _ q Rq.out.len Bq.out ?_) | (refine wpList_loadE rfl (.tmp 7) rfl (g5) rfl _ m Rm.out.len Bm.out ?_) | (refine wpList_loadE rfl (.tmp 8) rfl (g7) rfl _ r Rr.out.len Br.out ?_) | (refine wpList_loadE rfl (.tmp 10) rfl (g10) rfl _ n Rn.out.len Bn.out ?_))
  refine (root_b (b := false) Rq.out (by rw [Fq.out]; exact NY.out) _).mono ?_
  rintro e ws12 ⟨s, hs, hfs, rfl, ht⟩
  have Rs := Lib.hid hs
  have Fs := Lib.hid (show fe s = rootN Y by rw [hfs, Fq.out])
  replace Bp := Lib.hid (Bp.out.touch ht (by simp))
  replace Bq := Lib.hid (Bq.out.touch ht (by simp))
  replace Bm := Lib.hid (Bm.out.touch ht (by simp))
  replace Br := Lib.hid (Br.out.touch ht (by simp))
  replace Bn := Lib.hid (Bn.out.touch ht (by simp))
  replace HT := Lib.hid (HT.out.trans ht)
  clear hs hfs ht
  go_upto_region 8 with (first | (refine wpList_storeE rfl (.tmp 12) (.tmp 77) rfl (ws12.heap.size) rfl s rfl 24 _ Rs.out.len rfl (z1_0 ws12) ?_))
  obtain ⟨bs, bt⟩ := boxed1 ws12 s
  obtain ⟨w13, hw13⟩ : ∃ w13, w13 = ((ws12.alloc (.cells #[.int .i64 0, .int .i64 0, .int .i64 0, .int .i64 0, .int .i64 0, .int .i64 0, .int .i64 0, .int .i64 0, .int .i64 0, .int .i64 0, .int .i64 0, .int .i64 0, .int .i64 0, .int .i64 0, .int .i64 0, .int .i64 0] 24)).setRow (ws12.heap.size) (cellsZ s).toArray) := ⟨_, rfl⟩
  obtain ⟨g13, hg⟩ : ∃ g13, g13 = ws12.heap.size := ⟨_, rfl⟩
  rw [← hw13, ← hg] at bs
  rw [← hw13] at bt ⊢
  rw [← hg]
  replace Bp := Lib.hid (Bp.out.touch bt (by simp))
  replace Bq := Lib.hid (Bq.out.touch bt (by simp))
  replace Bm := Lib.hid (Bm.out.touch bt (by simp))
  replace Br := Lib.hid (Br.out.touch bt (by simp))
  replace Bn := Lib.hid (Bn.out.touch bt (by simp))
  replace HT := Lib.hid (HT.out.trans bt)
  have Bs := Lib.hid bs
  have ils := Lib.hid (infoL Rs.out)
  clear bs bt hw13 hg
  go_wp2_with (first | (refine wpList_loadE rfl (.tmp 5) rfl (g3) rfl _ p Rp.out.len Bp.out ?_) | (refine wpList_loadE rfl (.tmp 6) rfl (g3 + 1) rfl _ q Rq.out.len Bq.out ?_) | (refine wpList_loadE rfl (.tmp 7) rfl (g5) rfl _ m Rm.out.len Bm.out ?_) | (refine wpList_loadE rfl (.tmp 8) rfl (g7) rfl _ r Rr.out.len Br.out ?_) | (refine wpList_loadE rfl (.tmp 10) rfl (g10) rfl _ n Rn.out.len Bn.out ?_) | (refine wpList_loadE rfl (.tmp 12) rfl (g13) rfl _ s Rs.out.len Bs.out ?_))
  refine (mul_any q m Rq.out Rm.out _).mono ?_
  rintro e wu14 ⟨u, hu, hfu, rfl, ht⟩
  have Ru := Lib.hid hu
  have Fu := Lib.hid (show fe u = mulF Y (mulF X X) by rw [hfu, Fq.out, Fm.out])
  replace Bp := Lib.hid (Bp.out.touch ht (by simp))
  replace Bq := Lib.hid (Bq.out.touch ht (by simp))
  replace Bm := Lib.hid (Bm.out.touch ht (by simp))
  replace Br := Lib.hid (Br.out.touch ht (by simp))
  replace Bn := Lib.hid (Bn.out.touch ht (by simp))
  replace Bs := Lib.hid (Bs.out.touch ht (by simp))
  replace HT := Lib.hid (HT.out.trans ht)
  clear hu hfu ht
  go_wp2_with (first | (refine wpList_loadE rfl (.tmp 5) rfl (g3) rfl _ p Rp.out.len Bp.out ?_) | (refine wpList_loadE rfl (.tmp 6) rfl (g3 + 1) rfl _ q Rq.out.len Bq.out ?_) | (refine wpList_loadE rfl (.tmp 7) rfl (g5) rfl _ m Rm.out.len Bm.out ?_) | (refine wpList_loadE rfl (.tmp 8) rfl (g7) rfl _ r Rr.out.len Br.out ?_) | (refine wpList_loadE rfl (.tmp 10) rfl (g10) rfl _ n Rn.out.len Bn.out ?_) | (refine wpList_loadE rfl (.tmp 12) rfl (g13) rfl _ s Rs.out.len Bs.out ?_))
  refine (root_b (b := false) Ru.out (by rw [Fu.out]; exact NB.out) _).mono ?_
  rintro e wz15 ⟨z, hz, hfz, rfl, ht⟩
  have Rz := Lib.hid hz
  have Fz := Lib.hid (show fe z = rootN (mulF Y (mulF X X)) by rw [hfz, Fu.out])
  replace Bp := Lib.hid (Bp.out.touch ht (by simp))
  replace Bq := Lib.hid (Bq.out.touch ht (by simp))
  replace Bm := Lib.hid (Bm.out.touch ht (by simp))
  replace Br := Lib.hid (Br.out.touch ht (by simp))
  replace Bn := Lib.hid (Bn.out.touch ht (by simp))
  replace Bs := Lib.hid (Bs.out.touch ht (by simp))
  replace HT := Lib.hid (HT.out.trans ht)
  clear hz hfz ht
  go_upto_region 9 with (first | (refine wpList_storeE rfl (.tmp 14) (.tmp 84) rfl (wz15.heap.size) rfl z rfl 24 _ Rz.out.len rfl (z1_0 wz15) ?_))
  obtain ⟨bz, bt⟩ := boxed1 wz15 z
  obtain ⟨w16, hw16⟩ : ∃ w16, w16 = ((wz15.alloc (.cells #[.int .i64 0, .int .i64 0, .int .i64 0, .int .i64 0, .int .i64 0, .int .i64 0, .int .i64 0, .int .i64 0, .int .i64 0, .int .i64 0, .int .i64 0, .int .i64 0, .int .i64 0, .int .i64 0, .int .i64 0, .int .i64 0] 24)).setRow (wz15.heap.size) (cellsZ z).toArray) := ⟨_, rfl⟩
  obtain ⟨g16, hg⟩ : ∃ g16, g16 = wz15.heap.size := ⟨_, rfl⟩
  rw [← hw16, ← hg] at bz
  rw [← hw16] at bt ⊢
  rw [← hg]
  replace Bp := Lib.hid (Bp.out.touch bt (by simp))
  replace Bq := Lib.hid (Bq.out.touch bt (by simp))
  replace Bm := Lib.hid (Bm.out.touch bt (by simp))
  replace Br := Lib.hid (Br.out.touch bt (by simp))
  replace Bn := Lib.hid (Bn.out.touch bt (by simp))
  replace Bs := Lib.hid (Bs.out.touch bt (by simp))
  replace HT := Lib.hid (HT.out.trans bt)
  have Bz := Lib.hid bz
  have ilz := Lib.hid (infoL Rz.out)
  clear bz bt hw16 hg
  have rgp := Lib.hid (range_far Bp.out)
  have rgq := Lib.hid (range_far Bq.out)
  have rgs := Lib.hid (range_far Bs.out)
  refine wp_region_flow (by kernel_rfl) (fun W => Touch [] w16 W) (look [(4, isB true), (5, isP (g3)), (6, isP (g3 + 1)), (12, isP (g13)), (13, isB false), (15, isB false), (86, isB false), (87, isB false), (88, isB false), (89, isU), (90, isU), (91, isU), (92, isB false), (93, isB false), (94, EV (X)), (95, isB false), (96, isB false), (97, isU), (98, isB false), (99, isB false), (100, isB true), (101, isB true), (102, isB false), (103, isB true), (104, isB true), (105, isU), (106, isU), (107, isU), (108, isU), (109, isU), (110, isU), (111, isU), (112, isU), (113, isU), (114, isU), (115, isB true), (116, isB true), (117, isB true), (118, isB true), (119, isB true)]) [5, 6, 12, 13, 15] [86, 87, 88, 89, 90, 91, 92, 93, 94, 95, 96, 97, 98, 99, 100, 101, 102, 103, 104, 105, 106, 107, 108, 109, 110, 111, 112, 113, 114, 115, 116, 117, 118, 119, 4] [4] (by kernel_rfl) (by kernel_rfl) (by kernel_rfl) (by kernel_rfl) (by first | exact (Touch.refl _ _).drew | assumption) ⟨rfl, rfl, rfl, rfl, rfl, trivial⟩ ?_ ?_
  · refine FSteps.cons (FStep.plain rfl fun a w hS hE => OpTo.move rfl ⟨dOf.of 86 rfl (hE 13 (by kernel_rfl)), hS⟩) ?_
    refine FSteps.cons (FStep.plain rfl fun a w hS hE => OpTo.move rfl ⟨dOf.of 87 rfl (hE 15 (by kernel_rfl)), hS⟩) ?_
    refine FSteps.cons (FStep.plain rfl fun a w hS hE => OpTo.move rfl ⟨dOf.of 88 rfl (hE 87 (by kernel_rfl)), hS⟩) ?_
    refine FSteps.cons (FStep.no 88 rfl rfl (fun _ h => h) (dOf.of 89 rfl rfl)) ?_
    refine FSteps.cons (FStep.no 88 rfl rfl (fun _ h => h) (dOf.of 90 rfl rfl)) ?_
    refine FSteps.cons (FStep.no 88 rfl rfl (fun _ h => h) (dOf.of 91 rfl rfl)) ?_
    refine FSteps.cons (FStep.plain rfl fun a w hS hE => OpTo.pick false rfl (hE 88 (by kernel_rfl)) ⟨dOf.of 92 rfl (Eq.refl (Value.bool false)), hS⟩) ?_
    refine FSteps.cons (FStep.plain rfl fun a w hS hE => OpTo.move rfl ⟨dOf.of 93 rfl (hE 92 (by kernel_rfl)), hS⟩) ?_
    refine FSteps.cons (FStep.go 93 rfl rfl (fun _ h => h) fun a w hS hE => OpTo.row _ (.tmp 5) rfl (g3) (hE 5 (by kernel_rfl)) (cellsZ p) _ (rgp.out w hS) Try.underlying24 rfl ilp.out ⟨dOf.of 94 rfl ⟨p, Rp.out, Fp.out, rfl⟩, hS⟩) ?_
    refine FSteps.cons (FStep.go 93 rfl rfl (fun _ h => h) fun a w hS hE => OpTo.call #[a.tmps.getD 94 undef] rfl Try.func25 (by kernel_rfl) (by kernel_rfl) (args1 ..) ((zero_v (hE 94 (by kernel_rfl)) K90.out w).mono fun _ _ h => Gives.to hS 95 rfl (fun _ h => h) h)) ?_
    refine FSteps.cons (FStep.go 93 rfl rfl (fun _ h => h) fun a w hS hE => OpTo.move rfl ⟨dOf.of 96 rfl (hE 95 (by kernel_rfl)), hS⟩) ?_
    refine FSteps.cons (FStep.no 96 rfl rfl (fun _ h => h) (dOf.of 97 rfl rfl)) ?_
    refine FSteps.cons (FStep.go 93 rfl rfl (fun _ h => h) fun a w hS hE => OpTo.pick false rfl (hE 96 (by kernel_rfl)) ⟨dOf.of 98 rfl (Eq.refl (Value.bool false)), hS⟩) ?_
    refine FSteps.cons (FStep.plain rfl fun a w hS hE => OpTo.pick false rfl (hE 93 (by kernel_rfl)) ⟨dOf.of 99 rfl (hE 98 (by kernel_rfl)), hS⟩) ?_
    refine FSteps.cons (FStep.plain rfl fun a w hS hE => OpTo.eqB Try.underlying4 false false rfl (hE 86 (by kernel_rfl)) (hE 99 (by kernel_rfl)) ⟨dOf.of 100 rfl (Eq.refl (Value.bool true)), hS⟩) ?_
    refine FSteps.cons (FStep.plain rfl fun a w hS hE => OpTo.move rfl ⟨dOf.of 101 rfl (hE 100 (by kernel_rfl)), hS⟩) ?_
    refine FSteps.cons (FStep.go 101 rfl rfl (fun _ h => h) fun a w hS hE => OpTo.move rfl ⟨dOf.of 102 rfl (hE 13 (by kernel_rfl)), hS⟩) ?_
    refine FSteps.cons (FStep.go 101 rfl rfl (fun _ h => h) fun a w hS hE => OpTo.not false rfl (hE 102 (by kernel_rfl)) ⟨dOf.of 103 rfl (Eq.refl (Value.bool true)), hS⟩) ?_
    refine FSteps.cons (FStep.go 101 rfl rfl (fun _ h => h) fun a w hS hE => OpTo.move rfl ⟨dOf.of 104 rfl (hE 103 (by kernel_rfl)), hS⟩) ?_
    refine FSteps.cons (FStep.no 104 rfl rfl (fun _ h => h) (dOf.of 105 rfl rfl)) ?_
    refine FSteps.cons (FStep.no 104 rfl rfl (fun _ h => h) (dOf.of 106 rfl rfl)) ?_
    refine FSteps.cons (FStep.no 104 rfl rfl (fun _ h => h) (dOf.of 107 rfl rfl)) ?_
    refine FSteps.cons (FStep.no 104 rfl rfl (fun _ h => h) (dOf.of 108 rfl rfl)) ?_
    refine FSteps.cons (FStep.no 104 rfl rfl (fun _ h => h) (dOf.of 109 rfl rfl)) ?_
    refine FSteps.cons (FStep.no 104 rfl rfl (fun _ h => h) (dOf.of 110 rfl rfl)) ?_
    refine FSteps.cons (FStep.noU 110 rfl rfl (fun _ h => h) (dOf.of 111 rfl rfl)) ?_
    refine FSteps.cons (FStep.noU 110 rfl rfl (fun _ h => h) (dOf.of 112 rfl rfl)) ?_
    refine FSteps.cons (FStep.noU 110 rfl rfl (fun _ h => h) (dOf.of 113 rfl rfl)) ?_
    refine FSteps.cons (FStep.no 104 rfl rfl (fun _ h => h) (dOf.of 114 rfl rfl)) ?_
    refine FSteps.cons (FStep.go 101 rfl rfl (fun _ h => h) fun a w hS hE => OpTo.pick true rfl (hE 104 (by kernel_rfl)) ⟨dOf.of 115 rfl (Eq.refl (Value.bool true)), hS⟩) ?_
    refine FSteps.cons (FStep.plain rfl fun a w hS hE => OpTo.pick true rfl (hE 101 (by kernel_rfl)) ⟨dOf.of 116 rfl (hE 115 (by kernel_rfl)), hS⟩) ?_
    refine FSteps.cons (FStep.plain rfl fun a w hS hE => OpTo.move rfl ⟨dOf.of 117 rfl (hE 116 (by kernel_rfl)), hS⟩) ?_
    refine FSteps.cons (FStep.go 117 rfl rfl (fun _ h => h) fun a w hS hE => OpTo.call #[] rfl Try.func27 (by kernel_rfl) (by kernel_rfl) (args0 ..) ((fixed_v hfix w).mono fun _ _ h => Gives.to hS 118 rfl (fun _ h => h) h)) ?_
    refine FSteps.cons (FStep.plain rfl fun a w hS hE => OpTo.pick true rfl (hE 117 (by kernel_rfl)) ⟨dOf.of 119 rfl (hE 118 (by kernel_rfl)), hS⟩) ?_
    refine FSteps.cons (FStep.plain rfl fun a w hS hE => OpTo.assign rfl ⟨dOf.of 4 rfl (hE 119 (by kernel_rfl)), hS⟩) ?_
    exact FSteps.nil
  intro f wx hS hF
  obtain ⟨h4, -⟩ := hF
  replace h4 : f 4 = .bool true := h4
  (try unfold Act.put)
  simp only [setAll, List.setIfInBounds_toArray, List.set_cons_zero, List.set_cons_succ, h4]
  replace Bp := Lib.hid (Bp.out.touch hS (by simp))
  replace Bq := Lib.hid (Bq.out.touch hS (by simp))
  replace Bm := Lib.hid (Bm.out.touch hS (by simp))
  replace Br := Lib.hid (Br.out.touch hS (by simp))
  replace Bn := Lib.hid (Bn.out.touch hS (by simp))
  replace Bs := Lib.hid (Bs.out.touch hS (by simp))
  replace Bz := Lib.hid (Bz.out.touch hS (by simp))
  replace HT := Lib.hid (HT.out.trans hS)
  clear hS rgp rgq rgs h4
  rename World => w17
  
  go_wp2_with fail
  go_ret
  exact ⟨rfl, HT.out⟩
theorem fsq_walk (hfix : FixedOk) (a b : ByteArray) (w : World) : Calls Try.prog 8 #[.string a, .string b] w fun e w' => e = .returned (.bool true) ∧ Touch [] w w' := by
  have lX : cutN a < PP := cutN_lt _
  have lY : cutN b < PP := cutN_lt _
  by_cases h0 : cutN a = 0
  · have hR : rootN (mulF (cutN a) (cutN a)) = cutN a := by
      have h1 := root_sq (sq_isN lX rfl)
      rw [h0, mulF_zero] at h1 ⊢
      refine ff_eq_zero (rootN_lt _) ?_
      have e := congrArg ff h1
      rw [ff_mul, ff_zero] at e
      rcases ff_dom e with h | h <;> exact h
    cases hN : isN (cutN b) with
    | true => exact fsq_0t hfix a b w _ _ (Lib.hid rfl) (Lib.hid rfl) lX lY hR h0 hN
    | false => exact fsq_0f hfix a b w _ _ (Lib.hid rfl) (Lib.hid rfl) lX lY hR h0 hN
  · by_cases hR : rootN (mulF (cutN a) (cutN a)) = cutN a
    · cases hN : isN (cutN b) with
      | true => exact fsq_tt hfix a b w _ _ (Lib.hid rfl) (Lib.hid rfl) lX lY hR h0 hN
      | false => exact fsq_tf hfix a b w _ _ (Lib.hid rfl) (Lib.hid rfl) lX lY hR h0 hN
    · cases hN : isN (cutN b) with
      | true => exact fsq_ft hfix a b w _ _ (Lib.hid rfl) (Lib.hid rfl) lX lY hR h0 hN
      | false => exact fsq_ff hfix a b w _ _ (Lib.hid rfl) (Lib.hid rfl) lX lY hR h0 hN
end Go.Proofs.Ytbchjefgfghjlaa
