/- WideJoins: the walk. -/
import Derived.Test.YtflpjnillfgghaaDoorWdOps2
namespace Go.Proofs.YtflpjnillfgghaaDoor
open Go Go.RowKit
set_option maxRecDepth 100000 in
set_option maxHeartbeats 4000000 in
theorem joins_walk (a b : ByteArray) (at_ : Int) (h0 : 0 ≤ at_) (h1 : at_ < 256) (w : World) (hV : WideV w) :
    Calls Tryd.prog 7 #[.string a, .string b, .int .u8 at_] w fun e w' => e = .returned (.bool true) ∧ Touch [] w w' := by
  have HV := Lib.hid hV
  clear hV
  go_enter Tryd.func7, Tryd.ntmps7
  go_upto_region 1 with fail
  go_cut [7, 8] (fun v7 v8 wx => ∃ x y : ByteArray, v7 = .string x ∧ v8 = .string y ∧ x.size ≤ 200 ∧ y.size ≤ 200 ∧ ∃ m, wx = w.drewN m)
  case first =>
    by_cases ha : a.size ≤ 200
    · by_cases hb : b.size ≤ 200
      · go_wp2_with fail
        go_quiet (fail)
        go_wp2_with fail
        go_meet
        exact ⟨_, _, rfl, rfl, by simp; omega, by simp; omega, nq, rfl⟩
      · go_wp2_with fail
        go_quiet (fail)
        go_wp2_with fail
        go_meet
        exact ⟨_, _, rfl, rfl, by simp; omega, by simp; omega, nq, rfl⟩
    · by_cases hb : b.size ≤ 200
      · go_wp2_with fail
        go_quiet (fail)
        go_wp2_with fail
        go_meet
        exact ⟨_, _, rfl, rfl, by simp; omega, by simp; omega, nq, rfl⟩
      · go_wp2_with fail
        go_quiet (fail)
        go_wp2_with fail
        go_meet
        exact ⟨_, _, rfl, rfl, by simp; omega, by simp; omega, nq, rfl⟩
  case rest =>
    obtain ⟨x, y, rfl, rfl, hx, hy, m, hwx⟩ := hcut
    have HT0 : Hid (Touch [] w wc) := Lib.hid (by rw [hwx]; exact (Touch.refl _ _).drewN m)
    clear hwx
    go_upto_region 3 with fail
    obtain ⟨k, hk⟩ : ∃ k : Nat, at_ % ((x.size : Int) + 1) = (k : Int) := ⟨(at_ % ((x.size : Int) + 1)).toNat, by have := Int.emod_nonneg at_ (show (x.size : Int) + 1 ≠ 0 by omega); omega⟩
    have hkx : k ≤ x.size := by have := Int.emod_lt_of_pos at_ (show 0 < (x.size : Int) + 1 by omega); omega
    rw [hk]
    clear hk h0 h1
    have hL : (bl x ++ bl y).length ≤ 1000000 := by rw [List.length_append, bl_len, bl_len]; omega
    have hsz : (x.extract k x.size).size + y.size ≤ 9223372036854775807 := by simp; omega
    have H1 := Lib.hid (fun (g : Nat) (W : World) (hb : Blk W g 9 ([x ++ y].map Value.string).toArray) (h : WideV W) => sum_blk [x ++ y] (bl x ++ bl y) (by simp [bl_append]) (by simp) hL g W hb h)
    have H2 := Lib.hid (fun (g : Nat) (W : World) (hb : Blk W g 9 ([x, y].map Value.string).toArray) (h : WideV W) => sum_blk [x, y] (bl x ++ bl y) (by simp) (by simp) hL g W hb h)
    have H3 := Lib.hid (fun (g : Nat) (W : World) (hb : Blk W g 9 ([⟨#[]⟩, x.extract 0 k, ⟨#[]⟩, x.extract k x.size ++ y, ⟨#[]⟩].map Value.string).toArray) (h : WideV W) => sum_blk [⟨#[]⟩, x.extract 0 k, ⟨#[]⟩, x.extract k x.size ++ y, ⟨#[]⟩] (bl x ++ bl y) (by
      rw [← bl_cut x k]
      simp [bl_append, show bl ⟨#[]⟩ = [] from rfl]) (by simp) hL g W hb h)
    have H4 := Lib.hid (fun (g : Nat) (W : World) (hb : Blk W g 9 ([x.extract 0 k, x.extract k x.size, y].map Value.string).toArray) (h : WideV W) => sum_blk [x.extract 0 k, x.extract k x.size, y] (bl x ++ bl y) (by
      rw [← bl_cut x k]
      simp) (by simp) hL g W hb h)
    have hr := sum_size (bl x ++ bl y)
    obtain ⟨r, hre⟩ : ∃ r, r = stB (sumS (bl x ++ bl y)) := ⟨_, rfl⟩
    rw [← hre] at hr H1 H2 H3 H4
    clear hre hL
    go_wp2_with fail
    have hb1 := Blk.new wc 9 #[.string (x ++ y)]
    refine (H1.out _ _ hb1 (HV.out.touch (HT0.out.alloc _))).mono ?_
    rintro e w1 ⟨rfl, ht1⟩
    have HT1 := Lib.hid ((HT0.out.alloc _).trans ht1)
    have HV1 := HV
    clear ht1 HT0 H1 hb1 HV
    have HV := Lib.hid (HV1.out.touch HT1.out)
    go_wp2_with fail
    go_upto_region 4 with fail
    -- XFLOW joins4
    refine wp_region_flowT (by kernel_rfl) 42 (lookW [(7, pu (isV (.string x))), (8, pu (isV (.string y))), (9, pu (isV (.int .i64 (k : Int)))), (10, pu (isV (.string r))), (32, pu (isV (.string x))), (33, pu (isV (.string y))), (34, slS [x, y]), (35, pu (isV (.string r))), (36, pu (isV (.string r))), (37, pu (isV (.bool true))), (38, pu (isV (.bool true))), (39, pu (isV (.string x))), (40, pu (isV (.int .i64 (k : Int)))), (41, pu (isV (.string (x.extract 0 k)))), (42, pu (isV (.string x))), (43, pu (isV (.int .i64 (k : Int)))), (44, pu (isV (.string (x.extract k x.size)))), (45, pu (isV (.string y))), (46, pu (isV (.string ((x.extract k x.size) ++ y)))), (47, slS [⟨#[]⟩, (x.extract 0 k), ⟨#[]⟩, ((x.extract k x.size) ++ y), ⟨#[]⟩]), (48, pu (isV (.string r))), (49, pu (isV (.string r))), (50, pu (isV (.bool true))), (51, pu (isV (.bool true))), (52, pu (isV (.bool true))), (53, pu (isV (.string x))), (54, pu (isV (.int .i64 (k : Int)))), (55, pu (isV (.string (x.extract 0 k)))), (56, pu (isV (.string x))), (57, pu (isV (.int .i64 (k : Int)))), (58, pu (isV (.string (x.extract k x.size)))), (59, pu (isV (.string y))), (60, slS [(x.extract 0 k), (x.extract k x.size), y]), (61, pu (isV (.string r))), (62, pu (isV (.string r))), (63, pu (isV (.bool true))), (64, pu (isV (.bool true))), (65, pu (isV (.bool true))), (66, pu (isV (.string r))), (67, pu (isV (.int .i64 (64 : Int)))), (68, pu (isV (.bool true))), (69, pu (isV (.bool true))), (70, pu (isV (.bool true))), (71, pu (isV (.bool true))), (72, pu (isV (.bool true))), (6, pu (isV (.bool true)))]) [7, 8, 9, 10] [32, 33, 34, 35, 36, 37, 38, 39, 40, 41, 42, 43, 44, 45, 46, 47, 48, 49, 50, 51, 52, 53, 54, 55, 56, 57, 58, 59, 60, 61, 62, 63, 64, 65, 66, 67, 68, 69, 70, 71, 72, 6] [6] (by kernel_rfl) (by kernel_rfl) (by kernel_rfl) (by kernel_rfl) ⟨rfl, rfl, rfl, rfl, trivial⟩ ?_ ?_
    · refine FStepsW.cons (FStepW.plain rfl fun a w hS hE => OpTo.move rfl ⟨dOfW.of 32 rfl (hE 7 (by kernel_rfl)), Touch.refl _ _⟩) ?_
      refine FStepsW.cons (FStepW.plain rfl fun a w hS hE => OpTo.move rfl ⟨dOfW.of 33 rfl (hE 8 (by kernel_rfl)), Touch.refl _ _⟩) ?_
      refine FStepsW.cons (FStepW.plain rfl fun a w hS hE => OpTo.bld2 x y rfl (hE 32 (by kernel_rfl)) (hE 33 (by kernel_rfl)) (fun v w' h => dOfW.of 34 rfl h)) ?_
      refine FStepsW.cons (FStepW.plain rfl fun a w hS hE => OpTo.sum [x, y] r rfl (hE 34 (by kernel_rfl)) H2.out (HV.out.touch hS) (fun w' => dOfW.of 35 rfl rfl)) ?_
      refine FStepsW.cons (FStepW.plain rfl fun a w hS hE => OpTo.move rfl ⟨dOfW.of 36 rfl (hE 10 (by kernel_rfl)), Touch.refl _ _⟩) ?_
      refine FStepsW.cons (FStepW.plain rfl fun a w hS hE => OpTo.eqT r rfl (hE 35 (by kernel_rfl)) (hE 36 (by kernel_rfl)) ⟨dOfW.of 37 rfl rfl, Touch.refl _ _⟩) ?_
      refine FStepsW.cons (FStepW.plain rfl fun a w hS hE => OpTo.move rfl ⟨dOfW.of 38 rfl (hE 37 (by kernel_rfl)), Touch.refl _ _⟩) ?_
      refine FStepsW.cons (FStepW.go 38 rfl rfl (fun _ _ h => h) fun a w hS hE => OpTo.move rfl ⟨dOfW.of 39 rfl (hE 7 (by kernel_rfl)), Touch.refl _ _⟩) ?_
      refine FStepsW.cons (FStepW.go 38 rfl rfl (fun _ _ h => h) fun a w hS hE => OpTo.move rfl ⟨dOfW.of 40 rfl (hE 9 (by kernel_rfl)), Touch.refl _ _⟩) ?_
      refine FStepsW.cons (FStepW.go 38 rfl rfl (fun _ _ h => h) fun a w hS hE => OpTo.slHi x k rfl (hE 39 (by kernel_rfl)) (hE 40 (by kernel_rfl)) hkx ⟨dOfW.of 41 rfl rfl, Touch.refl _ _⟩) ?_
      refine FStepsW.cons (FStepW.go 38 rfl rfl (fun _ _ h => h) fun a w hS hE => OpTo.move rfl ⟨dOfW.of 42 rfl (hE 7 (by kernel_rfl)), Touch.refl _ _⟩) ?_
      refine FStepsW.cons (FStepW.go 38 rfl rfl (fun _ _ h => h) fun a w hS hE => OpTo.move rfl ⟨dOfW.of 43 rfl (hE 9 (by kernel_rfl)), Touch.refl _ _⟩) ?_
      refine FStepsW.cons (FStepW.go 38 rfl rfl (fun _ _ h => h) fun a w hS hE => OpTo.slLo x k rfl (hE 42 (by kernel_rfl)) (hE 43 (by kernel_rfl)) hkx ⟨dOfW.of 44 rfl rfl, Touch.refl _ _⟩) ?_
      refine FStepsW.cons (FStepW.go 38 rfl rfl (fun _ _ h => h) fun a w hS hE => OpTo.move rfl ⟨dOfW.of 45 rfl (hE 8 (by kernel_rfl)), Touch.refl _ _⟩) ?_
      refine FStepsW.cons (FStepW.go 38 rfl rfl (fun _ _ h => h) fun a w hS hE => OpTo.addT (x.extract k x.size) y rfl (hE 44 (by kernel_rfl)) (hE 45 (by kernel_rfl)) hsz ⟨dOfW.of 46 rfl rfl, Touch.refl _ _⟩) ?_
      refine FStepsW.cons (FStepW.go 38 rfl rfl (fun _ _ h => h) fun a w hS hE => OpTo.bld5 ⟨#[]⟩ (x.extract 0 k) ⟨#[]⟩ ((x.extract k x.size) ++ y) ⟨#[]⟩ rfl rfl (hE 41 (by kernel_rfl)) rfl (hE 46 (by kernel_rfl)) rfl (fun v w' h => dOfW.of 47 rfl h)) ?_
      refine FStepsW.cons (FStepW.go 38 rfl rfl (fun _ _ h => h) fun a w hS hE => OpTo.sum [⟨#[]⟩, (x.extract 0 k), ⟨#[]⟩, ((x.extract k x.size) ++ y), ⟨#[]⟩] r rfl (hE 47 (by kernel_rfl)) H3.out (HV.out.touch hS) (fun w' => dOfW.of 48 rfl rfl)) ?_
      refine FStepsW.cons (FStepW.go 38 rfl rfl (fun _ _ h => h) fun a w hS hE => OpTo.move rfl ⟨dOfW.of 49 rfl (hE 10 (by kernel_rfl)), Touch.refl _ _⟩) ?_
      refine FStepsW.cons (FStepW.go 38 rfl rfl (fun _ _ h => h) fun a w hS hE => OpTo.eqT r rfl (hE 48 (by kernel_rfl)) (hE 49 (by kernel_rfl)) ⟨dOfW.of 50 rfl rfl, Touch.refl _ _⟩) ?_
      refine FStepsW.cons (FStepW.plain rfl fun a w hS hE => OpTo.pick true rfl (hE 38 (by kernel_rfl)) ⟨dOfW.of 51 rfl (hE 50 (by kernel_rfl)), Touch.refl _ _⟩) ?_
      refine FStepsW.cons (FStepW.plain rfl fun a w hS hE => OpTo.move rfl ⟨dOfW.of 52 rfl (hE 51 (by kernel_rfl)), Touch.refl _ _⟩) ?_
      refine FStepsW.cons (FStepW.go 52 rfl rfl (fun _ _ h => h) fun a w hS hE => OpTo.move rfl ⟨dOfW.of 53 rfl (hE 7 (by kernel_rfl)), Touch.refl _ _⟩) ?_
      refine FStepsW.cons (FStepW.go 52 rfl rfl (fun _ _ h => h) fun a w hS hE => OpTo.move rfl ⟨dOfW.of 54 rfl (hE 9 (by kernel_rfl)), Touch.refl _ _⟩) ?_
      refine FStepsW.cons (FStepW.go 52 rfl rfl (fun _ _ h => h) fun a w hS hE => OpTo.slHi x k rfl (hE 53 (by kernel_rfl)) (hE 54 (by kernel_rfl)) hkx ⟨dOfW.of 55 rfl rfl, Touch.refl _ _⟩) ?_
      refine FStepsW.cons (FStepW.go 52 rfl rfl (fun _ _ h => h) fun a w hS hE => OpTo.move rfl ⟨dOfW.of 56 rfl (hE 7 (by kernel_rfl)), Touch.refl _ _⟩) ?_
      refine FStepsW.cons (FStepW.go 52 rfl rfl (fun _ _ h => h) fun a w hS hE => OpTo.move rfl ⟨dOfW.of 57 rfl (hE 9 (by kernel_rfl)), Touch.refl _ _⟩) ?_
      refine FStepsW.cons (FStepW.go 52 rfl rfl (fun _ _ h => h) fun a w hS hE => OpTo.slLo x k rfl (hE 56 (by kernel_rfl)) (hE 57 (by kernel_rfl)) hkx ⟨dOfW.of 58 rfl rfl, Touch.refl _ _⟩) ?_
      refine FStepsW.cons (FStepW.go 52 rfl rfl (fun _ _ h => h) fun a w hS hE => OpTo.move rfl ⟨dOfW.of 59 rfl (hE 8 (by kernel_rfl)), Touch.refl _ _⟩) ?_
      refine FStepsW.cons (FStepW.go 52 rfl rfl (fun _ _ h => h) fun a w hS hE => OpTo.bld3 (x.extract 0 k) (x.extract k x.size) y rfl (hE 55 (by kernel_rfl)) (hE 58 (by kernel_rfl)) (hE 59 (by kernel_rfl)) (fun v w' h => dOfW.of 60 rfl h)) ?_
      refine FStepsW.cons (FStepW.go 52 rfl rfl (fun _ _ h => h) fun a w hS hE => OpTo.sum [(x.extract 0 k), (x.extract k x.size), y] r rfl (hE 60 (by kernel_rfl)) H4.out (HV.out.touch hS) (fun w' => dOfW.of 61 rfl rfl)) ?_
      refine FStepsW.cons (FStepW.go 52 rfl rfl (fun _ _ h => h) fun a w hS hE => OpTo.move rfl ⟨dOfW.of 62 rfl (hE 10 (by kernel_rfl)), Touch.refl _ _⟩) ?_
      refine FStepsW.cons (FStepW.go 52 rfl rfl (fun _ _ h => h) fun a w hS hE => OpTo.eqT r rfl (hE 61 (by kernel_rfl)) (hE 62 (by kernel_rfl)) ⟨dOfW.of 63 rfl rfl, Touch.refl _ _⟩) ?_
      refine FStepsW.cons (FStepW.plain rfl fun a w hS hE => OpTo.pick true rfl (hE 52 (by kernel_rfl)) ⟨dOfW.of 64 rfl (hE 63 (by kernel_rfl)), Touch.refl _ _⟩) ?_
      refine FStepsW.cons (FStepW.plain rfl fun a w hS hE => OpTo.move rfl ⟨dOfW.of 65 rfl (hE 64 (by kernel_rfl)), Touch.refl _ _⟩) ?_
      refine FStepsW.cons (FStepW.go 65 rfl rfl (fun _ _ h => h) fun a w hS hE => OpTo.move rfl ⟨dOfW.of 66 rfl (hE 10 (by kernel_rfl)), Touch.refl _ _⟩) ?_
      refine FStepsW.cons (FStepW.go 65 rfl rfl (fun _ _ h => h) fun a w hS hE => OpTo.lenT r 64 hr rfl (hE 66 (by kernel_rfl)) ⟨dOfW.of 67 rfl rfl, Touch.refl _ _⟩) ?_
      refine FStepsW.cons (FStepW.go 65 rfl rfl (fun _ _ h => h) fun a w hS hE => OpTo.eqK (64 : Int) rfl (hE 67 (by kernel_rfl)) rfl ⟨dOfW.of 68 rfl rfl, Touch.refl _ _⟩) ?_
      refine FStepsW.cons (FStepW.plain rfl fun a w hS hE => OpTo.pick true rfl (hE 65 (by kernel_rfl)) ⟨dOfW.of 69 rfl (hE 68 (by kernel_rfl)), Touch.refl _ _⟩) ?_
      refine FStepsW.cons (FStepW.plain rfl fun a w hS hE => OpTo.move rfl ⟨dOfW.of 70 rfl (hE 69 (by kernel_rfl)), Touch.refl _ _⟩) ?_
      refine FStepsW.cons (FStepW.go 70 rfl rfl (fun _ _ h => h) fun a w hS hE => OpTo.fixed rfl (HV.out.touch hS) (fun w' => dOfW.of 71 rfl rfl)) ?_
      refine FStepsW.cons (FStepW.plain rfl fun a w hS hE => OpTo.pick true rfl (hE 70 (by kernel_rfl)) ⟨dOfW.of 72 rfl (hE 71 (by kernel_rfl)), Touch.refl _ _⟩) ?_
      refine FStepsW.cons (FStepW.plain rfl fun a w hS hE => OpTo.assign rfl ⟨dOfW.of 6 rfl (hE 72 (by kernel_rfl)), Touch.refl _ _⟩) ?_
      exact FStepsW.nil
    intro f wx hS hF
    obtain ⟨h6, -⟩ := hF
    replace h6 : f 6 = .bool true := h6
    simp only [setAll, List.setIfInBounds_toArray, List.set_cons_zero, List.set_cons_succ, h6]
    show wpList _ _ _ [] _ _
    -- END
    have HT2 := Lib.hid (HT1.out.trans hS)
    clear hS h6
    go_wp2_with fail
    go_ret
    exact ⟨rfl, HT2.out⟩
end Go.Proofs.YtflpjnillfgghaaDoor
