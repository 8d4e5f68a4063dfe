/- GaugeTells: the walk. -/
import Derived.Test.YtbpgbjhjnemaoaaGgFixed
namespace Go.Proofs.Ytbpgbjhjnemaoaa
open Go Go.RowKit
theorem meanF_lt {old x f : Nat} (ho : old < 18446744073709551616) (hx : x < 18446744073709551616) : meanF old x f < 18446744073709551616 := by
  unfold meanF
  split
  · rename_i m h
    unfold mF at h
    obtain ⟨l, h1, h⟩ := Option.bind_eq_some_iff.1 h
    obtain ⟨p, h2, h⟩ := Option.bind_eq_some_iff.1 h
    exact (fb_fin (.inl rfl) h).2
  · split
    · exact ho
    · exact hx
set_option maxRecDepth 100000 in
set_option maxHeartbeats 2000000 in
theorem tells_walk (x y f : Nat) (hx : x < 18446744073709551616) (hy : y < 18446744073709551616) (wA : World) :
    Calls Try.prog 3 #[.float .f64 x, .float .f64 y, .float .f64 f] wA fun e w' => e = .returned (.bool true) ∧ Touch [] wA w' := by
  have H1 := Lib.hid (fun W : World => kind_any x hx W)
  have H2 := Lib.hid (fun W : World => rkind_any x hx W)
  have H3 := Lib.hid (fun W : World => bits_any x hx W)
  have H4 := Lib.hid (fun W : World => rbits_any x hx W)
  have H5 := Lib.hid (fun W : World => less_any x y hx hy W)
  have H6 := Lib.hid (fun W : World => rless_any x y hx hy W)
  have H7 := Lib.hid (fun W : World => mean_any x y f hy W)
  have H8 := Lib.hid (fun W : World => rmean_any x y f hy W)
  have H9 := Lib.hid (fun W : World => rbits_any (meanF x y f) (meanF_lt hx hy) W)
  have HF := Lib.hid (fun W : World => fixed_any W)
  clear hx hy
  generalize meanF x y f = mm at *
  generalize bitsF mm = mb at *
  generalize bitsF x = xb at *
  generalize fk x = xk at *
  generalize flt x y = xl at *
  go_enter Try.func3, Try.ntmps3
  go_upto_region 1 with fail
  -- GF tells1
  refine wp_region_list ?_
  refine wpList_flowW (lookW [(0, pu (isV (.float .f64 x))), (1, pu (isV (.float .f64 y))), (2, pu (isV (.float .f64 f))), (7, pu (isV (.float .f64 x))), (8, pu (isV (.int .i64 xk))), (9, pu (isV (.float .f64 x))), (10, pu (isV (.int .i64 xk))), (11, pu (isV (.bool true))), (12, pu (isV (.bool true))), (13, pu (isV (.float .f64 x))), (14, pu (isV (.int .u64 (xb : Int)))), (15, pu (isV (.float .f64 x))), (16, pu (isV (.int .u64 (xb : Int)))), (17, pu (isV (.bool true))), (18, pu (isV (.bool true))), (19, pu (isV (.bool true))), (20, pu (isV (.float .f64 x))), (21, pu (isV (.float .f64 y))), (22, pu (isV (.bool xl))), (23, pu (isV (.float .f64 x))), (24, pu (isV (.float .f64 y))), (25, pu (isV (.bool xl))), (26, pu (isV (.bool true))), (27, pu (isV (.bool true))), (28, pu (isV (.bool true))), (29, pu (isV (.float .f64 x))), (30, pu (isV (.float .f64 y))), (31, pu (isV (.float .f64 f))), (32, pu (isV (.float .f64 mm))), (33, pu (isV (.int .u64 (mb : Int)))), (34, pu (isV (.float .f64 x))), (35, pu (isV (.float .f64 y))), (36, pu (isV (.float .f64 f))), (37, pu (isV (.float .f64 mm))), (38, pu (isV (.int .u64 (mb : Int)))), (39, pu (isV (.bool true))), (40, pu (isV (.bool true))), (41, pu (isV (.bool true))), (42, pu (isV (.bool true))), (43, pu (isV (.bool true))), (6, pu (isV (.bool true)))]) [0, 1, 2] [7, 8, 9, 10, 11, 12, 13, 14, 15, 16, 17, 18, 19, 20, 21, 22, 23, 24, 25, 26, 27, 28, 29, 30, 31, 32, 33, 34, 35, 36, 37, 38, 39, 40, 41, 42, 43, 6] [6] (by kernel_rfl) (by kernel_rfl) (by kernel_rfl) ⟨rfl, rfl, rfl, trivial⟩ ?_ ?_
  · refine FStepsW.cons (FStepW.plain rfl fun ac w hS hE => OpTo.moveG 7 rfl rfl (hE 0 (by kernel_rfl))) ?_
    refine FStepsW.cons (FStepW.plain rfl fun ac w hS hE => OpTo.callG #[.float .f64 x] 8 rfl rfl Try.func9 (by kernel_rfl) (by kernel_rfl) (argE1 (hE 7 (by kernel_rfl))) (cT (H1.out w)) (fun _ => rfl)) ?_
    refine FStepsW.cons (FStepW.plain rfl fun ac w hS hE => OpTo.moveG 9 rfl rfl (hE 0 (by kernel_rfl))) ?_
    refine FStepsW.cons (FStepW.plain rfl fun ac w hS hE => OpTo.callG #[.float .f64 x] 10 rfl rfl Try.func10 (by kernel_rfl) (by kernel_rfl) (argE1 (hE 9 (by kernel_rfl))) (cT (H2.out w)) (fun _ => rfl)) ?_
    refine FStepsW.cons (FStepW.plain rfl fun ac w hS hE => OpTo.pureG (v := .bool true) 11 rfl (by have h8 : ac.eval (.tmp 8) = .int .i64 xk := hE 8 (by kernel_rfl); have h10 : ac.eval (.tmp 10) = .int .i64 xk := hE 10 (by kernel_rfl); unfold execOp; simp only [h10, h8]; go_simp) rfl) ?_
    refine FStepsW.cons (FStepW.plain rfl fun ac w hS hE => OpTo.moveG 12 rfl rfl (hE 11 (by kernel_rfl))) ?_
    refine FStepsW.cons (FStepW.go 12 rfl rfl (fun _ _ h => h) fun ac w hS hE => OpTo.moveG 13 rfl rfl (hE 0 (by kernel_rfl))) ?_
    refine FStepsW.cons (FStepW.go 12 rfl rfl (fun _ _ h => h) fun ac w hS hE => OpTo.callG #[.float .f64 x] 14 rfl rfl Try.func11 (by kernel_rfl) (by kernel_rfl) (argE1 (hE 13 (by kernel_rfl))) (cT (H3.out w)) (fun _ => rfl)) ?_
    refine FStepsW.cons (FStepW.go 12 rfl rfl (fun _ _ h => h) fun ac w hS hE => OpTo.moveG 15 rfl rfl (hE 0 (by kernel_rfl))) ?_
    refine FStepsW.cons (FStepW.go 12 rfl rfl (fun _ _ h => h) fun ac w hS hE => OpTo.callG #[.float .f64 x] 16 rfl rfl Try.func12 (by kernel_rfl) (by kernel_rfl) (argE1 (hE 15 (by kernel_rfl))) (cT (H4.out w)) (fun _ => rfl)) ?_
    refine FStepsW.cons (FStepW.go 12 rfl rfl (fun _ _ h => h) fun ac w hS hE => OpTo.pureG (v := .bool true) 17 rfl (by have h14 : ac.eval (.tmp 14) = .int .u64 (xb : Int) := hE 14 (by kernel_rfl); have h16 : ac.eval (.tmp 16) = .int .u64 (xb : Int) := hE 16 (by kernel_rfl); unfold execOp; simp only [h14, h16]; go_simp) rfl) ?_
    refine FStepsW.cons (FStepW.plain rfl fun ac w hS hE => OpTo.pickG true 18 rfl rfl (hE 12 (by kernel_rfl)) (hE 17 (by kernel_rfl))) ?_
    refine FStepsW.cons (FStepW.plain rfl fun ac w hS hE => OpTo.moveG 19 rfl rfl (hE 18 (by kernel_rfl))) ?_
    refine FStepsW.cons (FStepW.go 19 rfl rfl (fun _ _ h => h) fun ac w hS hE => OpTo.moveG 20 rfl rfl (hE 0 (by kernel_rfl))) ?_
    refine FStepsW.cons (FStepW.go 19 rfl rfl (fun _ _ h => h) fun ac w hS hE => OpTo.moveG 21 rfl rfl (hE 1 (by kernel_rfl))) ?_
    refine FStepsW.cons (FStepW.go 19 rfl rfl (fun _ _ h => h) fun ac w hS hE => OpTo.callG #[.float .f64 x, .float .f64 y] 22 rfl rfl Try.func13 (by kernel_rfl) (by kernel_rfl) (argE2 (hE 20 (by kernel_rfl)) (hE 21 (by kernel_rfl))) (cT (H5.out w)) (fun _ => rfl)) ?_
    refine FStepsW.cons (FStepW.go 19 rfl rfl (fun _ _ h => h) fun ac w hS hE => OpTo.moveG 23 rfl rfl (hE 0 (by kernel_rfl))) ?_
    refine FStepsW.cons (FStepW.go 19 rfl rfl (fun _ _ h => h) fun ac w hS hE => OpTo.moveG 24 rfl rfl (hE 1 (by kernel_rfl))) ?_
    refine FStepsW.cons (FStepW.go 19 rfl rfl (fun _ _ h => h) fun ac w hS hE => OpTo.callG #[.float .f64 x, .float .f64 y] 25 rfl rfl Try.func14 (by kernel_rfl) (by kernel_rfl) (argE2 (hE 23 (by kernel_rfl)) (hE 24 (by kernel_rfl))) (cT (H6.out w)) (fun _ => rfl)) ?_
    refine FStepsW.cons (FStepW.go 19 rfl rfl (fun _ _ h => h) fun ac w hS hE => OpTo.pureG (v := .bool true) 26 rfl (by have h22 : ac.eval (.tmp 22) = .bool xl := hE 22 (by kernel_rfl); have h25 : ac.eval (.tmp 25) = .bool xl := hE 25 (by kernel_rfl); unfold execOp; simp only [h22, h25]; go_simp) rfl) ?_
    refine FStepsW.cons (FStepW.plain rfl fun ac w hS hE => OpTo.pickG true 27 rfl rfl (hE 19 (by kernel_rfl)) (hE 26 (by kernel_rfl))) ?_
    refine FStepsW.cons (FStepW.plain rfl fun ac w hS hE => OpTo.moveG 28 rfl rfl (hE 27 (by kernel_rfl))) ?_
    refine FStepsW.cons (FStepW.go 28 rfl rfl (fun _ _ h => h) fun ac w hS hE => OpTo.moveG 29 rfl rfl (hE 0 (by kernel_rfl))) ?_
    refine FStepsW.cons (FStepW.go 28 rfl rfl (fun _ _ h => h) fun ac w hS hE => OpTo.moveG 30 rfl rfl (hE 1 (by kernel_rfl))) ?_
    refine FStepsW.cons (FStepW.go 28 rfl rfl (fun _ _ h => h) fun ac w hS hE => OpTo.moveG 31 rfl rfl (hE 2 (by kernel_rfl))) ?_
    refine FStepsW.cons (FStepW.go 28 rfl rfl (fun _ _ h => h) fun ac w hS hE => OpTo.callG #[.float .f64 x, .float .f64 y, .float .f64 f] 32 rfl rfl Try.func15 (by kernel_rfl) (by kernel_rfl) (argE3 (hE 29 (by kernel_rfl)) (hE 30 (by kernel_rfl)) (hE 31 (by kernel_rfl))) (cN (H7.out w)) (fun _ => rfl)) ?_
    refine FStepsW.cons (FStepW.go 28 rfl rfl (fun _ _ h => h) fun ac w hS hE => OpTo.callG #[.float .f64 mm] 33 rfl rfl Try.func12 (by kernel_rfl) (by kernel_rfl) (argE1 (hE 32 (by kernel_rfl))) (cT (H9.out w)) (fun _ => rfl)) ?_
    refine FStepsW.cons (FStepW.go 28 rfl rfl (fun _ _ h => h) fun ac w hS hE => OpTo.moveG 34 rfl rfl (hE 0 (by kernel_rfl))) ?_
    refine FStepsW.cons (FStepW.go 28 rfl rfl (fun _ _ h => h) fun ac w hS hE => OpTo.moveG 35 rfl rfl (hE 1 (by kernel_rfl))) ?_
    refine FStepsW.cons (FStepW.go 28 rfl rfl (fun _ _ h => h) fun ac w hS hE => OpTo.moveG 36 rfl rfl (hE 2 (by kernel_rfl))) ?_
    refine FStepsW.cons (FStepW.go 28 rfl rfl (fun _ _ h => h) fun ac w hS hE => OpTo.callG #[.float .f64 x, .float .f64 y, .float .f64 f] 37 rfl rfl Try.func16 (by kernel_rfl) (by kernel_rfl) (argE3 (hE 34 (by kernel_rfl)) (hE 35 (by kernel_rfl)) (hE 36 (by kernel_rfl))) (cN (H8.out w)) (fun _ => rfl)) ?_
    refine FStepsW.cons (FStepW.go 28 rfl rfl (fun _ _ h => h) fun ac w hS hE => OpTo.callG #[.float .f64 mm] 38 rfl rfl Try.func12 (by kernel_rfl) (by kernel_rfl) (argE1 (hE 37 (by kernel_rfl))) (cT (H9.out w)) (fun _ => rfl)) ?_
    refine FStepsW.cons (FStepW.go 28 rfl rfl (fun _ _ h => h) fun ac w hS hE => OpTo.pureG (v := .bool true) 39 rfl (by have h33 : ac.eval (.tmp 33) = .int .u64 (mb : Int) := hE 33 (by kernel_rfl); have h38 : ac.eval (.tmp 38) = .int .u64 (mb : Int) := hE 38 (by kernel_rfl); unfold execOp; simp only [h33, h38]; go_simp) rfl) ?_
    refine FStepsW.cons (FStepW.plain rfl fun ac w hS hE => OpTo.pickG true 40 rfl rfl (hE 28 (by kernel_rfl)) (hE 39 (by kernel_rfl))) ?_
    refine FStepsW.cons (FStepW.plain rfl fun ac w hS hE => OpTo.moveG 41 rfl rfl (hE 40 (by kernel_rfl))) ?_
    refine FStepsW.cons (FStepW.go 41 rfl rfl (fun _ _ h => h) fun ac w hS hE => OpTo.callG #[] 42 rfl rfl Try.func17 (by kernel_rfl) (by kernel_rfl) argE0 (HF.out w) (fun _ => rfl)) ?_
    refine FStepsW.cons (FStepW.plain rfl fun ac w hS hE => OpTo.pickG true 43 rfl rfl (hE 41 (by kernel_rfl)) (hE 42 (by kernel_rfl))) ?_
    refine FStepsW.cons (FStepW.plain rfl fun ac w hS hE => OpTo.assignG 6 rfl rfl (hE 43 (by kernel_rfl))) ?_
    exact FStepsW.nil
  intro f wx hS hF
  obtain ⟨h6, -⟩ := hF
  replace h6 : f 6 = .bool true := h6
  simp only [setAll, List.setIfInBounds_toArray, List.set_cons_zero, List.set_cons_succ, h6]
  -- END
  have HT := Lib.hid hS
  clear hS h6
  go_wp2_with fail
  go_ret
  exact ⟨rfl, HT.out⟩
end Go.Proofs.Ytbpgbjhjnemaoaa
