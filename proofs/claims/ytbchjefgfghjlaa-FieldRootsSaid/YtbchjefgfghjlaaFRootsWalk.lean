/- syngraphlaw04.FieldRoots: the walk. -/
import Derived.Test.YtbchjefgfghjlaaElem
import Derived.Test.YtbchjefgfghjlaaFLaws
import Derived.Test.YtbchjefgfghjlaaFixed04
import Derived.Test.YtbchjefgfghjlaaSeqFlow
import Derived.Test.YtbchjefgfghjlaaFField
import Derived.Test.YtbchjefgfghjlaaRefV
namespace Go.Proofs.Ytbchjefgfghjlaa
open Go.RowKit
set_option maxRecDepth 100000 in
set_option maxHeartbeats 4000000 in
theorem froots_walk (hfix : FixedOk) (s : ByteArray) (w : World) : Calls Try.prog 5 #[.string s] w fun e w' => e = .returned (.bool true) ∧ Touch [] w w' := by
  obtain ⟨X, hX⟩ : ∃ n, n = cutN s := ⟨_, rfl⟩
  have HX := Lib.hid hX.symm
  have lX : X < PP := hX ▸ cutN_lt _
  clear hX
  have LX := Lib.hid lX
  clear lX
  have HT := Lib.hid (Touch.refl [] w)
  go_enter Try.func5, Try.ntmps5
  go_wp2_with fail
  refine (cut_anyE s _).mono ?_
  rintro e wp1 ⟨p, hp, hfp, rfl, ht⟩
  have Rp := Lib.hid hp
  have Fp := Lib.hid (show fe p = X by rw [hfp, HX.out])
  replace HT := Lib.hid (HT.out.trans ht)
  clear hp hfp ht
  go_wp2_with fail
  refine (refCut_c s _).mono ?_
  rintro e ws2 ⟨rfl, ht⟩
  replace HT := Lib.hid (HT.out.trans ht)
  clear ht
  rw [HX.out]
  go_upto_region 2 with (first | (refine wpList_storeE rfl (.tmp 3) (.tmp 10) rfl (ws2.heap.size) rfl p rfl 24 _ Rp.out.len rfl (z1_0 ws2) ?_))
  obtain ⟨bp, bt⟩ := boxed1 ws2 p
  obtain ⟨w3, hw3⟩ : ∃ w3, w3 = ((ws2.alloc (.cells #[.int .i64 0, .int .i64 0, .int .i64 0, .int .i64 0, .int .i64 0, .int .i64 0, .int .i64 0, .int .i64 0, .int .i64 0, .int .i64 0, .int .i64 0, .int .i64 0, .int .i64 0, .int .i64 0, .int .i64 0, .int .i64 0] 24)).setRow (ws2.heap.size) (cellsZ p).toArray) := ⟨_, rfl⟩
  obtain ⟨g3, hg⟩ : ∃ g3, g3 = ws2.heap.size := ⟨_, rfl⟩
  rw [← hw3, ← hg] at bp
  rw [← hw3] at bt ⊢
  rw [← hg]
  replace HT := Lib.hid (HT.out.trans bt)
  have Bp := Lib.hid bp
  have ilp := Lib.hid (infoL Rp.out)
  clear bp bt hw3 hg
  go_wp2_with (first | (refine wpList_loadE rfl (.tmp 3) rfl (g3) rfl _ p Rp.out.len Bp.out ?_))
  refine (root_any p Rp.out _).mono ?_
  rintro e wr4 ⟨r, hr, hfr, rfl, ht⟩
  have Rr := Lib.hid hr
  have Fr := Lib.hid (show fe r = rootN X by rw [hfr, Fp.out])
  replace Bp := Lib.hid (Bp.out.touch ht (by simp))
  replace HT := Lib.hid (HT.out.trans ht)
  clear hr hfr ht
  rw [Fp.out]
  go_upto_region 3 with (first | (refine wpList_storeE rfl (.tmp 5) (.tmp 16) rfl (wr4.heap.size) rfl r rfl 24 _ Rr.out.len rfl (z1_0 wr4) ?_))
  obtain ⟨br, bt⟩ := boxed1 wr4 r
  obtain ⟨w5, hw5⟩ : ∃ w5, w5 = ((wr4.alloc (.cells #[.int .i64 0, .int .i64 0, .int .i64 0, .int .i64 0, .int .i64 0, .int .i64 0, .int .i64 0, .int .i64 0, .int .i64 0, .int .i64 0, .int .i64 0, .int .i64 0, .int .i64 0, .int .i64 0, .int .i64 0, .int .i64 0] 24)).setRow (wr4.heap.size) (cellsZ r).toArray) := ⟨_, rfl⟩
  obtain ⟨g5, hg⟩ : ∃ g5, g5 = wr4.heap.size := ⟨_, rfl⟩
  rw [← hw5, ← hg] at br
  rw [← hw5] at bt ⊢
  rw [← hg]
  replace Bp := Lib.hid (Bp.out.touch bt (by simp))
  replace HT := Lib.hid (HT.out.trans bt)
  have Br := Lib.hid br
  have ilr := Lib.hid (infoL Rr.out)
  clear br bt hw5 hg
  go_wp2_with fail
  refine (refRoot_toS LX.out _).mono ?_
  rintro e ws6 ⟨rfl, ht⟩
  replace Bp := Lib.hid (Bp.out.touch ht (by simp))
  replace Br := Lib.hid (Br.out.touch ht (by simp))
  replace HT := Lib.hid (HT.out.trans ht)
  clear ht
  go_upto_region 4 with fail
  have rgp := Lib.hid (range_far Bp.out)
  have rgr := Lib.hid (range_far Br.out)
  refine wp_region_list (wpList_flow (fun W => Touch [] ws6 W) (look [(2, isB true), (3, isP (g3)), (4, isS (toS (X))), (5, isP (g5)), (6, isB (isN X)), (7, isS (toS (rootN X))), (8, isB (isN X)), (23, EV (X)), (24, EV (invF (X))), (25, isS (toS (invF (X)))), (26, isS (toS (X))), (27, isS (toS (invF (X)))), (28, isB true), (29, isB true), (30, EV (rootN X)), (31, isS (toS (rootN X))), (32, isS (toS (rootN X))), (33, isB true), (34, isB true), (35, isB true), (36, isB (isN X)), (37, isB (isN X)), (38, isB true), (39, isB true), (40, isB true), (41, isB true), (42, isB true)]) [3, 4, 5, 6, 7, 8] [23, 24, 25, 26, 27, 28, 29, 30, 31, 32, 33, 34, 35, 36, 37, 38, 39, 40, 41, 42, 2] [2] (by kernel_rfl) (by kernel_rfl) (by kernel_rfl) (by first | exact Touch.refl _ _ | assumption) ⟨rfl, rfl, rfl, rfl, rfl, rfl, trivial⟩ ?_ ?_)
  · refine FSteps.cons (FStep.plain rfl fun a w hS hE => OpTo.row _ (.tmp 3) rfl (g3) (hE 3 (by kernel_rfl)) (cellsZ p) _ (rgp.out w hS) Try.underlying24 rfl ilp.out ⟨dOf.of 23 rfl ⟨p, Rp.out, Fp.out, rfl⟩, hS⟩) ?_
    refine FSteps.cons (FStep.plain rfl fun a w hS hE => OpTo.call #[a.tmps.getD 23 undef] rfl Try.func33 (by kernel_rfl) (by kernel_rfl) (args1 ..) ((inv_v (hE 23 (by kernel_rfl)) w).mono fun _ _ h => Gives.to hS 24 rfl (fun _ h => h) h)) ?_
    refine FSteps.cons (FStep.plain rfl fun a w hS hE => OpTo.call #[a.tmps.getD 24 undef] rfl Try.func13 (by kernel_rfl) (by kernel_rfl) (args1 ..) ((bytes_v (hE 24 (by kernel_rfl)) w).mono fun _ _ h => Gives.to hS 25 rfl (fun _ h => h) h)) ?_
    refine FSteps.cons (FStep.plain rfl fun a w hS hE => OpTo.move rfl ⟨dOf.of 26 rfl (hE 4 (by kernel_rfl)), hS⟩) ?_
    refine FSteps.cons (FStep.plain rfl fun a w hS hE => OpTo.call #[a.tmps.getD 26 undef] rfl Try.func34 (by kernel_rfl) (by kernel_rfl) (args1 ..) ((rinv_v (hE 26 (by kernel_rfl)) LX.out w).mono fun _ _ h => Gives.to hS 27 rfl (fun _ h => h) h)) ?_
    refine FSteps.cons (FStep.plain rfl fun a w hS hE => OpTo.eqS (toS (invF (X))) (toS (invF (X))) rfl (hE 25 (by kernel_rfl)) (hE 27 (by kernel_rfl)) ⟨dOf.of 28 rfl (by rw [(beq_self_eq_true (toS (invF (X))).toList)]; rfl), hS⟩) ?_
    refine FSteps.cons (FStep.plain rfl fun a w hS hE => OpTo.move rfl ⟨dOf.of 29 rfl (hE 28 (by kernel_rfl)), hS⟩) ?_
    refine FSteps.cons (FStep.go 29 rfl rfl (fun _ h => h) fun a w hS hE => OpTo.row _ (.tmp 5) rfl (g5) (hE 5 (by kernel_rfl)) (cellsZ r) _ (rgr.out w hS) Try.underlying24 rfl ilr.out ⟨dOf.of 30 rfl ⟨r, Rr.out, Fr.out, rfl⟩, hS⟩) ?_
    refine FSteps.cons (FStep.go 29 rfl rfl (fun _ h => h) fun a w hS hE => OpTo.call #[a.tmps.getD 30 undef] rfl Try.func13 (by kernel_rfl) (by kernel_rfl) (args1 ..) ((bytes_v (hE 30 (by kernel_rfl)) w).mono fun _ _ h => Gives.to hS 31 rfl (fun _ h => h) h)) ?_
    refine FSteps.cons (FStep.go 29 rfl rfl (fun _ h => h) fun a w hS hE => OpTo.move rfl ⟨dOf.of 32 rfl (hE 7 (by kernel_rfl)), hS⟩) ?_
    refine FSteps.cons (FStep.go 29 rfl rfl (fun _ h => h) fun a w hS hE => OpTo.eqS (toS (rootN X)) (toS (rootN X)) rfl (hE 31 (by kernel_rfl)) (hE 32 (by kernel_rfl)) ⟨dOf.of 33 rfl (by rw [(beq_self_eq_true (toS (rootN X)).toList)]; rfl), hS⟩) ?_
    refine FSteps.cons (FStep.plain rfl fun a w hS hE => OpTo.pick true rfl (hE 29 (by kernel_rfl)) ⟨dOf.of 34 rfl (hE 33 (by kernel_rfl)), hS⟩) ?_
    refine FSteps.cons (FStep.plain rfl fun a w hS hE => OpTo.move rfl ⟨dOf.of 35 rfl (hE 34 (by kernel_rfl)), hS⟩) ?_
    refine FSteps.cons (FStep.go 35 rfl rfl (fun _ h => h) fun a w hS hE => OpTo.move rfl ⟨dOf.of 36 rfl (hE 6 (by kernel_rfl)), hS⟩) ?_
    refine FSteps.cons (FStep.go 35 rfl rfl (fun _ h => h) fun a w hS hE => OpTo.move rfl ⟨dOf.of 37 rfl (hE 8 (by kernel_rfl)), hS⟩) ?_
    refine FSteps.cons (FStep.go 35 rfl rfl (fun _ h => h) fun a w hS hE => OpTo.eqB Try.underlying4 (isN X) (isN X) rfl (hE 36 (by kernel_rfl)) (hE 37 (by kernel_rfl)) ⟨dOf.of 38 rfl (congrArg Value.bool (beq_self_eq_true _)), hS⟩) ?_
    refine FSteps.cons (FStep.plain rfl fun a w hS hE => OpTo.pick true rfl (hE 35 (by kernel_rfl)) ⟨dOf.of 39 rfl (hE 38 (by kernel_rfl)), hS⟩) ?_
    refine FSteps.cons (FStep.plain rfl fun a w hS hE => OpTo.move rfl ⟨dOf.of 40 rfl (hE 39 (by kernel_rfl)), hS⟩) ?_
    refine FSteps.cons (FStep.go 40 rfl rfl (fun _ h => h) fun a w hS hE => OpTo.call #[] rfl Try.func27 (by kernel_rfl) (by kernel_rfl) (args0 ..) ((fixed_v hfix w).mono fun _ _ h => Gives.to hS 41 rfl (fun _ h => h) h)) ?_
    refine FSteps.cons (FStep.plain rfl fun a w hS hE => OpTo.pick true rfl (hE 40 (by kernel_rfl)) ⟨dOf.of 42 rfl (hE 41 (by kernel_rfl)), hS⟩) ?_
    refine FSteps.cons (FStep.plain rfl fun a w hS hE => OpTo.assign rfl ⟨dOf.of 2 rfl (hE 42 (by kernel_rfl)), hS⟩) ?_
    exact FSteps.nil
  intro f wx hS hF
  obtain ⟨h2, -⟩ := hF
  replace h2 : f 2 = .bool true := h2
  (try unfold Act.put)
  simp only [setAll, List.setIfInBounds_toArray, List.set_cons_zero, List.set_cons_succ, h2]
  replace Bp := Lib.hid (Bp.out.touch hS (by simp))
  replace Br := Lib.hid (Br.out.touch hS (by simp))
  replace HT := Lib.hid (HT.out.trans hS)
  clear hS rgp rgr h2
  rename World => w7
  
  go_wp2_with fail
  go_ret
  exact ⟨rfl, HT.out⟩
end Go.Proofs.Ytbchjefgfghjlaa
