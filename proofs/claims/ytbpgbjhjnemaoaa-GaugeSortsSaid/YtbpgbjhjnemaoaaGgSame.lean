/- Same: of the program and of the document (printed by gen_gauge.py). -/
import Derived.Test.YtbpgbjhjnemaoaaGgAdd
import Derived.Test.YtbpgbjhjnemaoaaGFlow
namespace Go.Proofs.Ytbpgbjhjnemaoaa
open Go Go.RowKit
/-- Two gauges are alike: by their numbers' digits. -/
def alike (m l h : Nat) (n : Int) (m' l' h' : Nat) (n' : Int) : Bool := decide (bitsF m = bitsF m') && (decide (bitsF l = bitsF l') && (decide (bitsF h = bitsF h') && decide (n = n')))
theorem box2 (w : World) (t : TypeId) (A B : Array Value) : Blk ((w.alloc (.cells A t)).alloc (.cells B t)) w.heap.size t A ∧ Blk ((w.alloc (.cells A t)).alloc (.cells B t)) (w.heap.size + 1) t B :=
  ⟨(Blk.new w t A).alloc _, by simpa using Blk.new (w.alloc (.cells A t)) t B⟩
set_option maxRecDepth 100000 in
set_option maxHeartbeats 2000000 in
theorem same_any (m l h m' l' h' : Nat) (n n' : Int) (hm : m < 18446744073709551616) (hl : l < 18446744073709551616) (hh : h < 18446744073709551616) (hm' : m' < 18446744073709551616) (hl' : l' < 18446744073709551616) (hh' : h' < 18446744073709551616) (wA : World) :
    Calls Try.prog 22 #[gV m l h n, gV m' l' h' n'] wA fun e w' => e = .returned (.bool (alike m l h n m' l' h' n')) ∧ Touch [] wA w' := by
  have H1 := Lib.hid (fun W : World => bits_any m hm W)
  have H2 := Lib.hid (fun W : World => bits_any m' hm' W)
  have H3 := Lib.hid (fun W : World => bits_any l hl W)
  have H4 := Lib.hid (fun W : World => bits_any l' hl' W)
  have H5 := Lib.hid (fun W : World => bits_any h hh W)
  have H6 := Lib.hid (fun W : World => bits_any h' hh' W)
  obtain ⟨hb1, hb2⟩ := box2 wA 31 #[.float .f64 m, .float .f64 l, .float .f64 h, .int .u64 n] #[.float .f64 m', .float .f64 l', .float .f64 h', .int .u64 n']
  have HB1 := Lib.hid hb1
  have HB2 := Lib.hid hb2
  unfold alike
  clear hm hl hh hm' hl' hh' hb1 hb2
  generalize bitsF m = x1 at *
  generalize bitsF m' = x2 at *
  generalize bitsF l = x3 at *
  generalize bitsF l' = x4 at *
  generalize bitsF h = x5 at *
  generalize bitsF h' = x6 at *
  by_cases c1 : x1 = x2
  · have d1 := Lib.hid (show ((x1 : Int) == (x2 : Int)) = true from beq_iff_eq.2 (by omega))
    rw [decide_eq_true c1]
    by_cases c2 : x3 = x4
    · have d2 := Lib.hid (show ((x3 : Int) == (x4 : Int)) = true from beq_iff_eq.2 (by omega))
      rw [decide_eq_true c2]
      by_cases c3 : x5 = x6
      · have d3 := Lib.hid (show ((x5 : Int) == (x6 : Int)) = true from beq_iff_eq.2 (by omega))
        rw [decide_eq_true c3]
        clear c1 c2 c3
        obtain ⟨b, hb⟩ : ∃ b, b = decide (n = n') := ⟨_, rfl⟩
        have d4 := Lib.hid (show (n == n') = b by rw [hb]; rfl)
        have HE := Lib.hid (show b = (true && (true && (true && decide (n = n')))) by rw [hb]; rfl)
        clear hb
        go_enter Try.func22, Try.ntmps22
        go_wp2_with fail
        -- GF same3
        refine wp_region_flowT (by kernel_rfl) 33 (lookW [(2, pu (isV (.pointer (some ⟨wA.heap.size, 0, none⟩)))), (3, pu (isV (.pointer (some ⟨wA.heap.size + 1, 0, none⟩)))), (5, pu (isV (.pointer (some ⟨wA.heap.size, 0, none⟩)))), (6, pu (isV (.float .f64 m))), (7, pu (isV (.int .u64 (x1 : Int)))), (8, pu (isV (.pointer (some ⟨wA.heap.size + 1, 0, none⟩)))), (9, pu (isV (.float .f64 m'))), (10, pu (isV (.int .u64 (x2 : Int)))), (11, pu (isV (.bool true))), (12, pu (isV (.bool true))), (13, pu (isV (.pointer (some ⟨wA.heap.size, 1, none⟩)))), (14, pu (isV (.float .f64 l))), (15, pu (isV (.int .u64 (x3 : Int)))), (16, pu (isV (.pointer (some ⟨wA.heap.size + 1, 1, none⟩)))), (17, pu (isV (.float .f64 l'))), (18, pu (isV (.int .u64 (x4 : Int)))), (19, pu (isV (.bool true))), (20, pu (isV (.bool true))), (21, pu (isV (.bool true))), (22, pu (isV (.pointer (some ⟨wA.heap.size, 2, none⟩)))), (23, pu (isV (.float .f64 h))), (24, pu (isV (.int .u64 (x5 : Int)))), (25, pu (isV (.pointer (some ⟨wA.heap.size + 1, 2, none⟩)))), (26, pu (isV (.float .f64 h'))), (27, pu (isV (.int .u64 (x6 : Int)))), (28, pu (isV (.bool true))), (29, pu (isV (.bool true))), (30, pu (isV (.bool true))), (31, pu (isV (.pointer (some ⟨wA.heap.size, 3, none⟩)))), (32, pu (isV (.int .u64 n))), (33, pu (isV (.pointer (some ⟨wA.heap.size + 1, 3, none⟩)))), (34, pu (isV (.int .u64 n'))), (35, pu (isV (.bool b))), (36, pu (isV (.bool b))), (4, pu (isV (.bool b)))]) [2, 3] [5, 6, 7, 8, 9, 10, 11, 12, 13, 14, 15, 16, 17, 18, 19, 20, 21, 22, 23, 24, 25, 26, 27, 28, 29, 30, 31, 32, 33, 34, 35, 36, 4] [4] (by kernel_rfl) (by kernel_rfl) (by kernel_rfl) (by kernel_rfl) ⟨rfl, rfl, trivial⟩ ?_ ?_
        · refine FStepsW.cons (FStepW.plain rfl fun a w hS hE => OpTo.pureG (v := .pointer (some ⟨wA.heap.size, 0, none⟩)) 5 rfl (by have h2 : a.eval (.tmp 2) = .pointer (some ⟨wA.heap.size, 0, none⟩) := hE 2 (by kernel_rfl); unfold execOp; simp only [h2]; go_simp) rfl) ?_
          refine FStepsW.cons (FStepW.plain rfl fun a w hS hE => OpTo.pureG (v := .float .f64 m) 6 rfl (by have h5 : a.eval (.tmp 5) = .pointer (some ⟨wA.heap.size, 0, none⟩) := hE 5 (by kernel_rfl); have hcell : w.cell? ⟨wA.heap.size, 0, none⟩ = some (.float .f64 m) := ((HB1.out.touch hS (by simp)).cell 0).trans rfl; unfold execOp; simp only [h5]; go_simp) rfl) ?_
          refine FStepsW.cons (FStepW.plain rfl fun a w hS hE => OpTo.callG #[.float .f64 m] 7 rfl rfl Try.func11 (by kernel_rfl) (by kernel_rfl) (argE1 (hE 6 (by kernel_rfl))) (cT (H1.out w)) (fun _ => rfl)) ?_
          refine FStepsW.cons (FStepW.plain rfl fun a w hS hE => OpTo.pureG (v := .pointer (some ⟨wA.heap.size + 1, 0, none⟩)) 8 rfl (by have h3 : a.eval (.tmp 3) = .pointer (some ⟨wA.heap.size + 1, 0, none⟩) := hE 3 (by kernel_rfl); unfold execOp; simp only [h3]; go_simp) rfl) ?_
          refine FStepsW.cons (FStepW.plain rfl fun a w hS hE => OpTo.pureG (v := .float .f64 m') 9 rfl (by have h8 : a.eval (.tmp 8) = .pointer (some ⟨wA.heap.size + 1, 0, none⟩) := hE 8 (by kernel_rfl); have hcell : w.cell? ⟨wA.heap.size + 1, 0, none⟩ = some (.float .f64 m') := ((HB2.out.touch hS (by simp)).cell 0).trans rfl; unfold execOp; simp only [h8]; go_simp) rfl) ?_
          refine FStepsW.cons (FStepW.plain rfl fun a w hS hE => OpTo.callG #[.float .f64 m'] 10 rfl rfl Try.func11 (by kernel_rfl) (by kernel_rfl) (argE1 (hE 9 (by kernel_rfl))) (cT (H2.out w)) (fun _ => rfl)) ?_
          refine FStepsW.cons (FStepW.plain rfl fun a w hS hE => OpTo.pureG (v := .bool true) 11 rfl (by have h7 : a.eval (.tmp 7) = .int .u64 (x1 : Int) := hE 7 (by kernel_rfl); have h10 : a.eval (.tmp 10) = .int .u64 (x2 : Int) := hE 10 (by kernel_rfl); have q := d1.out; unfold execOp; simp only [h10, h7]; go_simp) rfl) ?_
          refine FStepsW.cons (FStepW.plain rfl fun a w hS hE => OpTo.moveG 12 rfl rfl (hE 11 (by kernel_rfl))) ?_
          refine FStepsW.cons (FStepW.go 12 rfl rfl (fun _ _ h => h) fun a w hS hE => OpTo.pureG (v := .pointer (some ⟨wA.heap.size, 1, none⟩)) 13 rfl (by have h2 : a.eval (.tmp 2) = .pointer (some ⟨wA.heap.size, 0, none⟩) := hE 2 (by kernel_rfl); unfold execOp; simp only [h2]; go_simp) rfl) ?_
          refine FStepsW.cons (FStepW.go 12 rfl rfl (fun _ _ h => h) fun a w hS hE => OpTo.pureG (v := .float .f64 l) 14 rfl (by have h13 : a.eval (.tmp 13) = .pointer (some ⟨wA.heap.size, 1, none⟩) := hE 13 (by kernel_rfl); have hcell : w.cell? ⟨wA.heap.size, 1, none⟩ = some (.float .f64 l) := ((HB1.out.touch hS (by simp)).cell 1).trans rfl; unfold execOp; simp only [h13]; go_simp) rfl) ?_
          refine FStepsW.cons (FStepW.go 12 rfl rfl (fun _ _ h => h) fun a w hS hE => OpTo.callG #[.float .f64 l] 15 rfl rfl Try.func11 (by kernel_rfl) (by kernel_rfl) (argE1 (hE 14 (by kernel_rfl))) (cT (H3.out w)) (fun _ => rfl)) ?_
          refine FStepsW.cons (FStepW.go 12 rfl rfl (fun _ _ h => h) fun a w hS hE => OpTo.pureG (v := .pointer (some ⟨wA.heap.size + 1, 1, none⟩)) 16 rfl (by have h3 : a.eval (.tmp 3) = .pointer (some ⟨wA.heap.size + 1, 0, none⟩) := hE 3 (by kernel_rfl); unfold execOp; simp only [h3]; go_simp) rfl) ?_
          refine FStepsW.cons (FStepW.go 12 rfl rfl (fun _ _ h => h) fun a w hS hE => OpTo.pureG (v := .float .f64 l') 17 rfl (by have h16 : a.eval (.tmp 16) = .pointer (some ⟨wA.heap.size + 1, 1, none⟩) := hE 16 (by kernel_rfl); have hcell : w.cell? ⟨wA.heap.size + 1, 1, none⟩ = some (.float .f64 l') := ((HB2.out.touch hS (by simp)).cell 1).trans rfl; unfold execOp; simp only [h16]; go_simp) rfl) ?_
          refine FStepsW.cons (FStepW.go 12 rfl rfl (fun _ _ h => h) fun a w hS hE => OpTo.callG #[.float .f64 l'] 18 rfl rfl Try.func11 (by kernel_rfl) (by kernel_rfl) (argE1 (hE 17 (by kernel_rfl))) (cT (H4.out w)) (fun _ => rfl)) ?_
          refine FStepsW.cons (FStepW.go 12 rfl rfl (fun _ _ h => h) fun a w hS hE => OpTo.pureG (v := .bool true) 19 rfl (by have h15 : a.eval (.tmp 15) = .int .u64 (x3 : Int) := hE 15 (by kernel_rfl); have h18 : a.eval (.tmp 18) = .int .u64 (x4 : Int) := hE 18 (by kernel_rfl); have q := d2.out; unfold execOp; simp only [h15, h18]; go_simp) rfl) ?_
          refine FStepsW.cons (FStepW.plain rfl fun a w hS hE => OpTo.pickG true 20 rfl rfl (hE 12 (by kernel_rfl)) (hE 19 (by kernel_rfl))) ?_
          refine FStepsW.cons (FStepW.plain rfl fun a w hS hE => OpTo.moveG 21 rfl rfl (hE 20 (by kernel_rfl))) ?_
          refine FStepsW.cons (FStepW.go 21 rfl rfl (fun _ _ h => h) fun a w hS hE => OpTo.pureG (v := .pointer (some ⟨wA.heap.size, 2, none⟩)) 22 rfl (by have h2 : a.eval (.tmp 2) = .pointer (some ⟨wA.heap.size, 0, none⟩) := hE 2 (by kernel_rfl); unfold execOp; simp only [h2]; go_simp) rfl) ?_
          refine FStepsW.cons (FStepW.go 21 rfl rfl (fun _ _ h => h) fun a w hS hE => OpTo.pureG (v := .float .f64 h) 23 rfl (by have h22 : a.eval (.tmp 22) = .pointer (some ⟨wA.heap.size, 2, none⟩) := hE 22 (by kernel_rfl); have hcell : w.cell? ⟨wA.heap.size, 2, none⟩ = some (.float .f64 h) := ((HB1.out.touch hS (by simp)).cell 2).trans rfl; unfold execOp; simp only [h22]; go_simp) rfl) ?_
          refine FStepsW.cons (FStepW.go 21 rfl rfl (fun _ _ h => h) fun a w hS hE => OpTo.callG #[.float .f64 h] 24 rfl rfl Try.func11 (by kernel_rfl) (by kernel_rfl) (argE1 (hE 23 (by kernel_rfl))) (cT (H5.out w)) (fun _ => rfl)) ?_
          refine FStepsW.cons (FStepW.go 21 rfl rfl (fun _ _ h => h) fun a w hS hE => OpTo.pureG (v := .pointer (some ⟨wA.heap.size + 1, 2, none⟩)) 25 rfl (by have h3 : a.eval (.tmp 3) = .pointer (some ⟨wA.heap.size + 1, 0, none⟩) := hE 3 (by kernel_rfl); unfold execOp; simp only [h3]; go_simp) rfl) ?_
          refine FStepsW.cons (FStepW.go 21 rfl rfl (fun _ _ h => h) fun a w hS hE => OpTo.pureG (v := .float .f64 h') 26 rfl (by have h25 : a.eval (.tmp 25) = .pointer (some ⟨wA.heap.size + 1, 2, none⟩) := hE 25 (by kernel_rfl); have hcell : w.cell? ⟨wA.heap.size + 1, 2, none⟩ = some (.float .f64 h') := ((HB2.out.touch hS (by simp)).cell 2).trans rfl; unfold execOp; simp only [h25]; go_simp) rfl) ?_
          refine FStepsW.cons (FStepW.go 21 rfl rfl (fun _ _ h => h) fun a w hS hE => OpTo.callG #[.float .f64 h'] 27 rfl rfl Try.func11 (by kernel_rfl) (by kernel_rfl) (argE1 (hE 26 (by kernel_rfl))) (cT (H6.out w)) (fun _ => rfl)) ?_
          refine FStepsW.cons (FStepW.go 21 rfl rfl (fun _ _ h => h) fun a w hS hE => OpTo.pureG (v := .bool true) 28 rfl (by have h24 : a.eval (.tmp 24) = .int .u64 (x5 : Int) := hE 24 (by kernel_rfl); have h27 : a.eval (.tmp 27) = .int .u64 (x6 : Int) := hE 27 (by kernel_rfl); have q := d3.out; unfold execOp; simp only [h24, h27]; go_simp) rfl) ?_
          refine FStepsW.cons (FStepW.plain rfl fun a w hS hE => OpTo.pickG true 29 rfl rfl (hE 21 (by kernel_rfl)) (hE 28 (by kernel_rfl))) ?_
          refine FStepsW.cons (FStepW.plain rfl fun a w hS hE => OpTo.moveG 30 rfl rfl (hE 29 (by kernel_rfl))) ?_
          refine FStepsW.cons (FStepW.go 30 rfl rfl (fun _ _ h => h) fun a w hS hE => OpTo.pureG (v := .pointer (some ⟨wA.heap.size, 3, none⟩)) 31 rfl (by have h2 : a.eval (.tmp 2) = .pointer (some ⟨wA.heap.size, 0, none⟩) := hE 2 (by kernel_rfl); unfold execOp; simp only [h2]; go_simp) rfl) ?_
          refine FStepsW.cons (FStepW.go 30 rfl rfl (fun _ _ h => h) fun a w hS hE => OpTo.pureG (v := .int .u64 n) 32 rfl (by have h31 : a.eval (.tmp 31) = .pointer (some ⟨wA.heap.size, 3, none⟩) := hE 31 (by kernel_rfl); have hcell : w.cell? ⟨wA.heap.size, 3, none⟩ = some (.int .u64 n) := ((HB1.out.touch hS (by simp)).cell 3).trans rfl; unfold execOp; simp only [h31]; go_simp) rfl) ?_
          refine FStepsW.cons (FStepW.go 30 rfl rfl (fun _ _ h => h) fun a w hS hE => OpTo.pureG (v := .pointer (some ⟨wA.heap.size + 1, 3, none⟩)) 33 rfl (by have h3 : a.eval (.tmp 3) = .pointer (some ⟨wA.heap.size + 1, 0, none⟩) := hE 3 (by kernel_rfl); unfold execOp; simp only [h3]; go_simp) rfl) ?_
          refine FStepsW.cons (FStepW.go 30 rfl rfl (fun _ _ h => h) fun a w hS hE => OpTo.pureG (v := .int .u64 n') 34 rfl (by have h33 : a.eval (.tmp 33) = .pointer (some ⟨wA.heap.size + 1, 3, none⟩) := hE 33 (by kernel_rfl); have hcell : w.cell? ⟨wA.heap.size + 1, 3, none⟩ = some (.int .u64 n') := ((HB2.out.touch hS (by simp)).cell 3).trans rfl; unfold execOp; simp only [h33]; go_simp) rfl) ?_
          refine FStepsW.cons (FStepW.go 30 rfl rfl (fun _ _ h => h) fun a w hS hE => OpTo.pureG (v := .bool b) 35 rfl (by have h32 : a.eval (.tmp 32) = .int .u64 n := hE 32 (by kernel_rfl); have h34 : a.eval (.tmp 34) = .int .u64 n' := hE 34 (by kernel_rfl); have q := d4.out; unfold execOp; simp only [h32, h34]; go_simp) rfl) ?_
          refine FStepsW.cons (FStepW.plain rfl fun a w hS hE => OpTo.pickG true 36 rfl rfl (hE 30 (by kernel_rfl)) (hE 35 (by kernel_rfl))) ?_
          refine FStepsW.cons (FStepW.plain rfl fun a w hS hE => OpTo.assignG 4 rfl rfl (hE 36 (by kernel_rfl))) ?_
          exact FStepsW.nil
        intro f wx hS hF
        obtain ⟨h4, -⟩ := hF
        replace h4 : f 4 = .bool b := h4
        simp only [setAll, List.setIfInBounds_toArray, List.set_cons_zero, List.set_cons_succ, h4]
        show wpList _ _ _ [] _ _
        -- END
        have HT := Lib.hid ((((Touch.refl [] wA).alloc _).alloc _).trans hS)
        clear hS h4
        go_wp2_with fail
        go_ret
        exact ⟨ret_bool HE.out, HT.out⟩
      · have d3 := Lib.hid (show ((x5 : Int) == (x6 : Int)) = false from beq_eq_false_iff_ne.2 (by omega))
        rw [decide_eq_false c3]
        clear c1 c2 c3
        go_enter Try.func22, Try.ntmps22
        go_wp2_with fail
        -- GF same2
        refine wp_region_flowT (by kernel_rfl) 33 (lookW [(2, pu (isV (.pointer (some ⟨wA.heap.size, 0, none⟩)))), (3, pu (isV (.pointer (some ⟨wA.heap.size + 1, 0, none⟩)))), (5, pu (isV (.pointer (some ⟨wA.heap.size, 0, none⟩)))), (6, pu (isV (.float .f64 m))), (7, pu (isV (.int .u64 (x1 : Int)))), (8, pu (isV (.pointer (some ⟨wA.heap.size + 1, 0, none⟩)))), (9, pu (isV (.float .f64 m'))), (10, pu (isV (.int .u64 (x2 : Int)))), (11, pu (isV (.bool true))), (12, pu (isV (.bool true))), (13, pu (isV (.pointer (some ⟨wA.heap.size, 1, none⟩)))), (14, pu (isV (.float .f64 l))), (15, pu (isV (.int .u64 (x3 : Int)))), (16, pu (isV (.pointer (some ⟨wA.heap.size + 1, 1, none⟩)))), (17, pu (isV (.float .f64 l'))), (18, pu (isV (.int .u64 (x4 : Int)))), (19, pu (isV (.bool true))), (20, pu (isV (.bool true))), (21, pu (isV (.bool true))), (22, pu (isV (.pointer (some ⟨wA.heap.size, 2, none⟩)))), (23, pu (isV (.float .f64 h))), (24, pu (isV (.int .u64 (x5 : Int)))), (25, pu (isV (.pointer (some ⟨wA.heap.size + 1, 2, none⟩)))), (26, pu (isV (.float .f64 h'))), (27, pu (isV (.int .u64 (x6 : Int)))), (28, pu (isV (.bool false))), (29, pu (isV (.bool false))), (30, pu (isV (.bool false))), (31, pu (isV (undef))), (32, pu (isV (undef))), (33, pu (isV (undef))), (34, pu (isV (undef))), (35, pu (isV (undef))), (36, pu (isV (.bool false))), (4, pu (isV (.bool false)))]) [2, 3] [5, 6, 7, 8, 9, 10, 11, 12, 13, 14, 15, 16, 17, 18, 19, 20, 21, 22, 23, 24, 25, 26, 27, 28, 29, 30, 31, 32, 33, 34, 35, 36, 4] [4] (by kernel_rfl) (by kernel_rfl) (by kernel_rfl) (by kernel_rfl) ⟨rfl, rfl, trivial⟩ ?_ ?_
        · refine FStepsW.cons (FStepW.plain rfl fun a w hS hE => OpTo.pureG (v := .pointer (some ⟨wA.heap.size, 0, none⟩)) 5 rfl (by have h2 : a.eval (.tmp 2) = .pointer (some ⟨wA.heap.size, 0, none⟩) := hE 2 (by kernel_rfl); unfold execOp; simp only [h2]; go_simp) rfl) ?_
          refine FStepsW.cons (FStepW.plain rfl fun a w hS hE => OpTo.pureG (v := .float .f64 m) 6 rfl (by have h5 : a.eval (.tmp 5) = .pointer (some ⟨wA.heap.size, 0, none⟩) := hE 5 (by kernel_rfl); have hcell : w.cell? ⟨wA.heap.size, 0, none⟩ = some (.float .f64 m) := ((HB1.out.touch hS (by simp)).cell 0).trans rfl; unfold execOp; simp only [h5]; go_simp) rfl) ?_
          refine FStepsW.cons (FStepW.plain rfl fun a w hS hE => OpTo.callG #[.float .f64 m] 7 rfl rfl Try.func11 (by kernel_rfl) (by kernel_rfl) (argE1 (hE 6 (by kernel_rfl))) (cT (H1.out w)) (fun _ => rfl)) ?_
          refine FStepsW.cons (FStepW.plain rfl fun a w hS hE => OpTo.pureG (v := .pointer (some ⟨wA.heap.size + 1, 0, none⟩)) 8 rfl (by have h3 : a.eval (.tmp 3) = .pointer (some ⟨wA.heap.size + 1, 0, none⟩) := hE 3 (by kernel_rfl); unfold execOp; simp only [h3]; go_simp) rfl) ?_
          refine FStepsW.cons (FStepW.plain rfl fun a w hS hE => OpTo.pureG (v := .float .f64 m') 9 rfl (by have h8 : a.eval (.tmp 8) = .pointer (some ⟨wA.heap.size + 1, 0, none⟩) := hE 8 (by kernel_rfl); have hcell : w.cell? ⟨wA.heap.size + 1, 0, none⟩ = some (.float .f64 m') := ((HB2.out.touch hS (by simp)).cell 0).trans rfl; unfold execOp; simp only [h8]; go_simp) rfl) ?_
          refine FStepsW.cons (FStepW.plain rfl fun a w hS hE => OpTo.callG #[.float .f64 m'] 10 rfl rfl Try.func11 (by kernel_rfl) (by kernel_rfl) (argE1 (hE 9 (by kernel_rfl))) (cT (H2.out w)) (fun _ => rfl)) ?_
          refine FStepsW.cons (FStepW.plain rfl fun a w hS hE => OpTo.pureG (v := .bool true) 11 rfl (by have h7 : a.eval (.tmp 7) = .int .u64 (x1 : Int) := hE 7 (by kernel_rfl); have h10 : a.eval (.tmp 10) = .int .u64 (x2 : Int) := hE 10 (by kernel_rfl); have q := d1.out; unfold execOp; simp only [h10, h7]; go_simp) rfl) ?_
          refine FStepsW.cons (FStepW.plain rfl fun a w hS hE => OpTo.moveG 12 rfl rfl (hE 11 (by kernel_rfl))) ?_
          refine FStepsW.cons (FStepW.go 12 rfl rfl (fun _ _ h => h) fun a w hS hE => OpTo.pureG (v := .pointer (some ⟨wA.heap.size, 1, none⟩)) 13 rfl (by have h2 : a.eval (.tmp 2) = .pointer (some ⟨wA.heap.size, 0, none⟩) := hE 2 (by kernel_rfl); unfold execOp; simp only [h2]; go_simp) rfl) ?_
          refine FStepsW.cons (FStepW.go 12 rfl rfl (fun _ _ h => h) fun a w hS hE => OpTo.pureG (v := .float .f64 l) 14 rfl (by have h13 : a.eval (.tmp 13) = .pointer (some ⟨wA.heap.size, 1, none⟩) := hE 13 (by kernel_rfl); have hcell : w.cell? ⟨wA.heap.size, 1, none⟩ = some (.float .f64 l) := ((HB1.out.touch hS (by simp)).cell 1).trans rfl; unfold execOp; simp only [h13]; go_simp) rfl) ?_
          refine FStepsW.cons (FStepW.go 12 rfl rfl (fun _ _ h => h) fun a w hS hE => OpTo.callG #[.float .f64 l] 15 rfl rfl Try.func11 (by kernel_rfl) (by kernel_rfl) (argE1 (hE 14 (by kernel_rfl))) (cT (H3.out w)) (fun _ => rfl)) ?_
          refine FStepsW.cons (FStepW.go 12 rfl rfl (fun _ _ h => h) fun a w hS hE => OpTo.pureG (v := .pointer (some ⟨wA.heap.size + 1, 1, none⟩)) 16 rfl (by have h3 : a.eval (.tmp 3) = .pointer (some ⟨wA.heap.size + 1, 0, none⟩) := hE 3 (by kernel_rfl); unfold execOp; simp only [h3]; go_simp) rfl) ?_
          refine FStepsW.cons (FStepW.go 12 rfl rfl (fun _ _ h => h) fun a w hS hE => OpTo.pureG (v := .float .f64 l') 17 rfl (by have h16 : a.eval (.tmp 16) = .pointer (some ⟨wA.heap.size + 1, 1, none⟩) := hE 16 (by kernel_rfl); have hcell : w.cell? ⟨wA.heap.size + 1, 1, none⟩ = some (.float .f64 l') := ((HB2.out.touch hS (by simp)).cell 1).trans rfl; unfold execOp; simp only [h16]; go_simp) rfl) ?_
          refine FStepsW.cons (FStepW.go 12 rfl rfl (fun _ _ h => h) fun a w hS hE => OpTo.callG #[.float .f64 l'] 18 rfl rfl Try.func11 (by kernel_rfl) (by kernel_rfl) (argE1 (hE 17 (by kernel_rfl))) (cT (H4.out w)) (fun _ => rfl)) ?_
          refine FStepsW.cons (FStepW.go 12 rfl rfl (fun _ _ h => h) fun a w hS hE => OpTo.pureG (v := .bool true) 19 rfl (by have h15 : a.eval (.tmp 15) = .int .u64 (x3 : Int) := hE 15 (by kernel_rfl); have h18 : a.eval (.tmp 18) = .int .u64 (x4 : Int) := hE 18 (by kernel_rfl); have q := d2.out; unfold execOp; simp only [h15, h18]; go_simp) rfl) ?_
          refine FStepsW.cons (FStepW.plain rfl fun a w hS hE => OpTo.pickG true 20 rfl rfl (hE 12 (by kernel_rfl)) (hE 19 (by kernel_rfl))) ?_
          refine FStepsW.cons (FStepW.plain rfl fun a w hS hE => OpTo.moveG 21 rfl rfl (hE 20 (by kernel_rfl))) ?_
          refine FStepsW.cons (FStepW.go 21 rfl rfl (fun _ _ h => h) fun a w hS hE => OpTo.pureG (v := .pointer (some ⟨wA.heap.size, 2, none⟩)) 22 rfl (by have h2 : a.eval (.tmp 2) = .pointer (some ⟨wA.heap.size, 0, none⟩) := hE 2 (by kernel_rfl); unfold execOp; simp only [h2]; go_simp) rfl) ?_
          refine FStepsW.cons (FStepW.go 21 rfl rfl (fun _ _ h => h) fun a w hS hE => OpTo.pureG (v := .float .f64 h) 23 rfl (by have h22 : a.eval (.tmp 22) = .pointer (some ⟨wA.heap.size, 2, none⟩) := hE 22 (by kernel_rfl); have hcell : w.cell? ⟨wA.heap.size, 2, none⟩ = some (.float .f64 h) := ((HB1.out.touch hS (by simp)).cell 2).trans rfl; unfold execOp; simp only [h22]; go_simp) rfl) ?_
          refine FStepsW.cons (FStepW.go 21 rfl rfl (fun _ _ h => h) fun a w hS hE => OpTo.callG #[.float .f64 h] 24 rfl rfl Try.func11 (by kernel_rfl) (by kernel_rfl) (argE1 (hE 23 (by kernel_rfl))) (cT (H5.out w)) (fun _ => rfl)) ?_
          refine FStepsW.cons (FStepW.go 21 rfl rfl (fun _ _ h => h) fun a w hS hE => OpTo.pureG (v := .pointer (some ⟨wA.heap.size + 1, 2, none⟩)) 25 rfl (by have h3 : a.eval (.tmp 3) = .pointer (some ⟨wA.heap.size + 1, 0, none⟩) := hE 3 (by kernel_rfl); unfold execOp; simp only [h3]; go_simp) rfl) ?_
          refine FStepsW.cons (FStepW.go 21 rfl rfl (fun _ _ h => h) fun a w hS hE => OpTo.pureG (v := .float .f64 h') 26 rfl (by have h25 : a.eval (.tmp 25) = .pointer (some ⟨wA.heap.size + 1, 2, none⟩) := hE 25 (by kernel_rfl); have hcell : w.cell? ⟨wA.heap.size + 1, 2, none⟩ = some (.float .f64 h') := ((HB2.out.touch hS (by simp)).cell 2).trans rfl; unfold execOp; simp only [h25]; go_simp) rfl) ?_
          refine FStepsW.cons (FStepW.go 21 rfl rfl (fun _ _ h => h) fun a w hS hE => OpTo.callG #[.float .f64 h'] 27 rfl rfl Try.func11 (by kernel_rfl) (by kernel_rfl) (argE1 (hE 26 (by kernel_rfl))) (cT (H6.out w)) (fun _ => rfl)) ?_
          refine FStepsW.cons (FStepW.go 21 rfl rfl (fun _ _ h => h) fun a w hS hE => OpTo.pureG (v := .bool false) 28 rfl (by have h24 : a.eval (.tmp 24) = .int .u64 (x5 : Int) := hE 24 (by kernel_rfl); have h27 : a.eval (.tmp 27) = .int .u64 (x6 : Int) := hE 27 (by kernel_rfl); have q := d3.out; unfold execOp; simp only [h24, h27]; go_simp) rfl) ?_
          refine FStepsW.cons (FStepW.plain rfl fun a w hS hE => OpTo.pickG true 29 rfl rfl (hE 21 (by kernel_rfl)) (hE 28 (by kernel_rfl))) ?_
          refine FStepsW.cons (FStepW.plain rfl fun a w hS hE => OpTo.moveG 30 rfl rfl (hE 29 (by kernel_rfl))) ?_
          refine FStepsW.cons (FStepW.no 30 rfl rfl (fun _ _ h => h) (fun _ => dOfW.of 31 rfl rfl)) ?_
          refine FStepsW.cons (FStepW.no 30 rfl rfl (fun _ _ h => h) (fun _ => dOfW.of 32 rfl rfl)) ?_
          refine FStepsW.cons (FStepW.no 30 rfl rfl (fun _ _ h => h) (fun _ => dOfW.of 33 rfl rfl)) ?_
          refine FStepsW.cons (FStepW.no 30 rfl rfl (fun _ _ h => h) (fun _ => dOfW.of 34 rfl rfl)) ?_
          refine FStepsW.cons (FStepW.no 30 rfl rfl (fun _ _ h => h) (fun _ => dOfW.of 35 rfl rfl)) ?_
          refine FStepsW.cons (FStepW.plain rfl fun a w hS hE => OpTo.pickG false 36 rfl rfl (hE 30 (by kernel_rfl)) rfl) ?_
          refine FStepsW.cons (FStepW.plain rfl fun a w hS hE => OpTo.assignG 4 rfl rfl (hE 36 (by kernel_rfl))) ?_
          exact FStepsW.nil
        intro f wx hS hF
        obtain ⟨h4, -⟩ := hF
        replace h4 : f 4 = .bool false := h4
        simp only [setAll, List.setIfInBounds_toArray, List.set_cons_zero, List.set_cons_succ, h4]
        show wpList _ _ _ [] _ _
        -- END
        have HT := Lib.hid ((((Touch.refl [] wA).alloc _).alloc _).trans hS)
        clear hS h4
        go_wp2_with fail
        go_ret
        exact ⟨ret_bool rfl, HT.out⟩
    · have d2 := Lib.hid (show ((x3 : Int) == (x4 : Int)) = false from beq_eq_false_iff_ne.2 (by omega))
      rw [decide_eq_false c2]
      clear c1 c2
      go_enter Try.func22, Try.ntmps22
      go_wp2_with fail
      -- GF same1
      refine wp_region_flowT (by kernel_rfl) 33 (lookW [(2, pu (isV (.pointer (some ⟨wA.heap.size, 0, none⟩)))), (3, pu (isV (.pointer (some ⟨wA.heap.size + 1, 0, none⟩)))), (5, pu (isV (.pointer (some ⟨wA.heap.size, 0, none⟩)))), (6, pu (isV (.float .f64 m))), (7, pu (isV (.int .u64 (x1 : Int)))), (8, pu (isV (.pointer (some ⟨wA.heap.size + 1, 0, none⟩)))), (9, pu (isV (.float .f64 m'))), (10, pu (isV (.int .u64 (x2 : Int)))), (11, pu (isV (.bool true))), (12, pu (isV (.bool true))), (13, pu (isV (.pointer (some ⟨wA.heap.size, 1, none⟩)))), (14, pu (isV (.float .f64 l))), (15, pu (isV (.int .u64 (x3 : Int)))), (16, pu (isV (.pointer (some ⟨wA.heap.size + 1, 1, none⟩)))), (17, pu (isV (.float .f64 l'))), (18, pu (isV (.int .u64 (x4 : Int)))), (19, pu (isV (.bool false))), (20, pu (isV (.bool false))), (21, pu (isV (.bool false))), (22, pu (isV (undef))), (23, pu (isV (undef))), (24, pu (isV (undef))), (25, pu (isV (undef))), (26, pu (isV (undef))), (27, pu (isV (undef))), (28, pu (isV (undef))), (29, pu (isV (.bool false))), (30, pu (isV (.bool false))), (31, pu (isV (undef))), (32, pu (isV (undef))), (33, pu (isV (undef))), (34, pu (isV (undef))), (35, pu (isV (undef))), (36, pu (isV (.bool false))), (4, pu (isV (.bool false)))]) [2, 3] [5, 6, 7, 8, 9, 10, 11, 12, 13, 14, 15, 16, 17, 18, 19, 20, 21, 22, 23, 24, 25, 26, 27, 28, 29, 30, 31, 32, 33, 34, 35, 36, 4] [4] (by kernel_rfl) (by kernel_rfl) (by kernel_rfl) (by kernel_rfl) ⟨rfl, rfl, trivial⟩ ?_ ?_
      · refine FStepsW.cons (FStepW.plain rfl fun a w hS hE => OpTo.pureG (v := .pointer (some ⟨wA.heap.size, 0, none⟩)) 5 rfl (by have h2 : a.eval (.tmp 2) = .pointer (some ⟨wA.heap.size, 0, none⟩) := hE 2 (by kernel_rfl); unfold execOp; simp only [h2]; go_simp) rfl) ?_
        refine FStepsW.cons (FStepW.plain rfl fun a w hS hE => OpTo.pureG (v := .float .f64 m) 6 rfl (by have h5 : a.eval (.tmp 5) = .pointer (some ⟨wA.heap.size, 0, none⟩) := hE 5 (by kernel_rfl); have hcell : w.cell? ⟨wA.heap.size, 0, none⟩ = some (.float .f64 m) := ((HB1.out.touch hS (by simp)).cell 0).trans rfl; unfold execOp; simp only [h5]; go_simp) rfl) ?_
        refine FStepsW.cons (FStepW.plain rfl fun a w hS hE => OpTo.callG #[.float .f64 m] 7 rfl rfl Try.func11 (by kernel_rfl) (by kernel_rfl) (argE1 (hE 6 (by kernel_rfl))) (cT (H1.out w)) (fun _ => rfl)) ?_
        refine FStepsW.cons (FStepW.plain rfl fun a w hS hE => OpTo.pureG (v := .pointer (some ⟨wA.heap.size + 1, 0, none⟩)) 8 rfl (by have h3 : a.eval (.tmp 3) = .pointer (some ⟨wA.heap.size + 1, 0, none⟩) := hE 3 (by kernel_rfl); unfold execOp; simp only [h3]; go_simp) rfl) ?_
        refine FStepsW.cons (FStepW.plain rfl fun a w hS hE => OpTo.pureG (v := .float .f64 m') 9 rfl (by have h8 : a.eval (.tmp 8) = .pointer (some ⟨wA.heap.size + 1, 0, none⟩) := hE 8 (by kernel_rfl); have hcell : w.cell? ⟨wA.heap.size + 1, 0, none⟩ = some (.float .f64 m') := ((HB2.out.touch hS (by simp)).cell 0).trans rfl; unfold execOp; simp only [h8]; go_simp) rfl) ?_
        refine FStepsW.cons (FStepW.plain rfl fun a w hS hE => OpTo.callG #[.float .f64 m'] 10 rfl rfl Try.func11 (by kernel_rfl) (by kernel_rfl) (argE1 (hE 9 (by kernel_rfl))) (cT (H2.out w)) (fun _ => rfl)) ?_
        refine FStepsW.cons (FStepW.plain rfl fun a w hS hE => OpTo.pureG (v := .bool true) 11 rfl (by have h7 : a.eval (.tmp 7) = .int .u64 (x1 : Int) := hE 7 (by kernel_rfl); have h10 : a.eval (.tmp 10) = .int .u64 (x2 : Int) := hE 10 (by kernel_rfl); have q := d1.out; unfold execOp; simp only [h10, h7]; go_simp) rfl) ?_
        refine FStepsW.cons (FStepW.plain rfl fun a w hS hE => OpTo.moveG 12 rfl rfl (hE 11 (by kernel_rfl))) ?_
        refine FStepsW.cons (FStepW.go 12 rfl rfl (fun _ _ h => h) fun a w hS hE => OpTo.pureG (v := .pointer (some ⟨wA.heap.size, 1, none⟩)) 13 rfl (by have h2 : a.eval (.tmp 2) = .pointer (some ⟨wA.heap.size, 0, none⟩) := hE 2 (by kernel_rfl); unfold execOp; simp only [h2]; go_simp) rfl) ?_
        refine FStepsW.cons (FStepW.go 12 rfl rfl (fun _ _ h => h) fun a w hS hE => OpTo.pureG (v := .float .f64 l) 14 rfl (by have h13 : a.eval (.tmp 13) = .pointer (some ⟨wA.heap.size, 1, none⟩) := hE 13 (by kernel_rfl); have hcell : w.cell? ⟨wA.heap.size, 1, none⟩ = some (.float .f64 l) := ((HB1.out.touch hS (by simp)).cell 1).trans rfl; unfold execOp; simp only [h13]; go_simp) rfl) ?_
        refine FStepsW.cons (FStepW.go 12 rfl rfl (fun _ _ h => h) fun a w hS hE => OpTo.callG #[.float .f64 l] 15 rfl rfl Try.func11 (by kernel_rfl) (by kernel_rfl) (argE1 (hE 14 (by kernel_rfl))) (cT (H3.out w)) (fun _ => rfl)) ?_
        refine FStepsW.cons (FStepW.go 12 rfl rfl (fun _ _ h => h) fun a w hS hE => OpTo.pureG (v := .pointer (some ⟨wA.heap.size + 1, 1, none⟩)) 16 rfl (by have h3 : a.eval (.tmp 3) = .pointer (some ⟨wA.heap.size + 1, 0, none⟩) := hE 3 (by kernel_rfl); unfold execOp; simp only [h3]; go_simp) rfl) ?_
        refine FStepsW.cons (FStepW.go 12 rfl rfl (fun _ _ h => h) fun a w hS hE => OpTo.pureG (v := .float .f64 l') 17 rfl (by have h16 : a.eval (.tmp 16) = .pointer (some ⟨wA.heap.size + 1, 1, none⟩) := hE 16 (by kernel_rfl); have hcell : w.cell? ⟨wA.heap.size + 1, 1, none⟩ = some (.float .f64 l') := ((HB2.out.touch hS (by simp)).cell 1).trans rfl; unfold execOp; simp only [h16]; go_simp) rfl) ?_
        refine FStepsW.cons (FStepW.go 12 rfl rfl (fun _ _ h => h) fun a w hS hE => OpTo.callG #[.float .f64 l'] 18 rfl rfl Try.func11 (by kernel_rfl) (by kernel_rfl) (argE1 (hE 17 (by kernel_rfl))) (cT (H4.out w)) (fun _ => rfl)) ?_
        refine FStepsW.cons (FStepW.go 12 rfl rfl (fun _ _ h => h) fun a w hS hE => OpTo.pureG (v := .bool false) 19 rfl (by have h15 : a.eval (.tmp 15) = .int .u64 (x3 : Int) := hE 15 (by kernel_rfl); have h18 : a.eval (.tmp 18) = .int .u64 (x4 : Int) := hE 18 (by kernel_rfl); have q := d2.out; unfold execOp; simp only [h15, h18]; go_simp) rfl) ?_
        refine FStepsW.cons (FStepW.plain rfl fun a w hS hE => OpTo.pickG true 20 rfl rfl (hE 12 (by kernel_rfl)) (hE 19 (by kernel_rfl))) ?_
        refine FStepsW.cons (FStepW.plain rfl fun a w hS hE => OpTo.moveG 21 rfl rfl (hE 20 (by kernel_rfl))) ?_
        refine FStepsW.cons (FStepW.no 21 rfl rfl (fun _ _ h => h) (fun _ => dOfW.of 22 rfl rfl)) ?_
        refine FStepsW.cons (FStepW.no 21 rfl rfl (fun _ _ h => h) (fun _ => dOfW.of 23 rfl rfl)) ?_
        refine FStepsW.cons (FStepW.no 21 rfl rfl (fun _ _ h => h) (fun _ => dOfW.of 24 rfl rfl)) ?_
        refine FStepsW.cons (FStepW.no 21 rfl rfl (fun _ _ h => h) (fun _ => dOfW.of 25 rfl rfl)) ?_
        refine FStepsW.cons (FStepW.no 21 rfl rfl (fun _ _ h => h) (fun _ => dOfW.of 26 rfl rfl)) ?_
        refine FStepsW.cons (FStepW.no 21 rfl rfl (fun _ _ h => h) (fun _ => dOfW.of 27 rfl rfl)) ?_
        refine FStepsW.cons (FStepW.no 21 rfl rfl (fun _ _ h => h) (fun _ => dOfW.of 28 rfl rfl)) ?_
        refine FStepsW.cons (FStepW.plain rfl fun a w hS hE => OpTo.pickG false 29 rfl rfl (hE 21 (by kernel_rfl)) rfl) ?_
        refine FStepsW.cons (FStepW.plain rfl fun a w hS hE => OpTo.moveG 30 rfl rfl (hE 29 (by kernel_rfl))) ?_
        refine FStepsW.cons (FStepW.no 30 rfl rfl (fun _ _ h => h) (fun _ => dOfW.of 31 rfl rfl)) ?_
        refine FStepsW.cons (FStepW.no 30 rfl rfl (fun _ _ h => h) (fun _ => dOfW.of 32 rfl rfl)) ?_
        refine FStepsW.cons (FStepW.no 30 rfl rfl (fun _ _ h => h) (fun _ => dOfW.of 33 rfl rfl)) ?_
        refine FStepsW.cons (FStepW.no 30 rfl rfl (fun _ _ h => h) (fun _ => dOfW.of 34 rfl rfl)) ?_
        refine FStepsW.cons (FStepW.no 30 rfl rfl (fun _ _ h => h) (fun _ => dOfW.of 35 rfl rfl)) ?_
        refine FStepsW.cons (FStepW.plain rfl fun a w hS hE => OpTo.pickG false 36 rfl rfl (hE 30 (by kernel_rfl)) rfl) ?_
        refine FStepsW.cons (FStepW.plain rfl fun a w hS hE => OpTo.assignG 4 rfl rfl (hE 36 (by kernel_rfl))) ?_
        exact FStepsW.nil
      intro f wx hS hF
      obtain ⟨h4, -⟩ := hF
      replace h4 : f 4 = .bool false := h4
      simp only [setAll, List.setIfInBounds_toArray, List.set_cons_zero, List.set_cons_succ, h4]
      show wpList _ _ _ [] _ _
      -- END
      have HT := Lib.hid ((((Touch.refl [] wA).alloc _).alloc _).trans hS)
      clear hS h4
      go_wp2_with fail
      go_ret
      exact ⟨ret_bool rfl, HT.out⟩
  · have d1 := Lib.hid (show ((x1 : Int) == (x2 : Int)) = false from beq_eq_false_iff_ne.2 (by omega))
    rw [decide_eq_false c1]
    clear c1
    go_enter Try.func22, Try.ntmps22
    go_wp2_with fail
    -- GF same0
    refine wp_region_flowT (by kernel_rfl) 33 (lookW [(2, pu (isV (.pointer (some ⟨wA.heap.size, 0, none⟩)))), (3, pu (isV (.pointer (some ⟨wA.heap.size + 1, 0, none⟩)))), (5, pu (isV (.pointer (some ⟨wA.heap.size, 0, none⟩)))), (6, pu (isV (.float .f64 m))), (7, pu (isV (.int .u64 (x1 : Int)))), (8, pu (isV (.pointer (some ⟨wA.heap.size + 1, 0, none⟩)))), (9, pu (isV (.float .f64 m'))), (10, pu (isV (.int .u64 (x2 : Int)))), (11, pu (isV (.bool false))), (12, pu (isV (.bool false))), (13, pu (isV (undef))), (14, pu (isV (undef))), (15, pu (isV (undef))), (16, pu (isV (undef))), (17, pu (isV (undef))), (18, pu (isV (undef))), (19, pu (isV (undef))), (20, pu (isV (.bool false))), (21, pu (isV (.bool false))), (22, pu (isV (undef))), (23, pu (isV (undef))), (24, pu (isV (undef))), (25, pu (isV (undef))), (26, pu (isV (undef))), (27, pu (isV (undef))), (28, pu (isV (undef))), (29, pu (isV (.bool false))), (30, pu (isV (.bool false))), (31, pu (isV (undef))), (32, pu (isV (undef))), (33, pu (isV (undef))), (34, pu (isV (undef))), (35, pu (isV (undef))), (36, pu (isV (.bool false))), (4, pu (isV (.bool false)))]) [2, 3] [5, 6, 7, 8, 9, 10, 11, 12, 13, 14, 15, 16, 17, 18, 19, 20, 21, 22, 23, 24, 25, 26, 27, 28, 29, 30, 31, 32, 33, 34, 35, 36, 4] [4] (by kernel_rfl) (by kernel_rfl) (by kernel_rfl) (by kernel_rfl) ⟨rfl, rfl, trivial⟩ ?_ ?_
    · refine FStepsW.cons (FStepW.plain rfl fun a w hS hE => OpTo.pureG (v := .pointer (some ⟨wA.heap.size, 0, none⟩)) 5 rfl (by have h2 : a.eval (.tmp 2) = .pointer (some ⟨wA.heap.size, 0, none⟩) := hE 2 (by kernel_rfl); unfold execOp; simp only [h2]; go_simp) rfl) ?_
      refine FStepsW.cons (FStepW.plain rfl fun a w hS hE => OpTo.pureG (v := .float .f64 m) 6 rfl (by have h5 : a.eval (.tmp 5) = .pointer (some ⟨wA.heap.size, 0, none⟩) := hE 5 (by kernel_rfl); have hcell : w.cell? ⟨wA.heap.size, 0, none⟩ = some (.float .f64 m) := ((HB1.out.touch hS (by simp)).cell 0).trans rfl; unfold execOp; simp only [h5]; go_simp) rfl) ?_
      refine FStepsW.cons (FStepW.plain rfl fun a w hS hE => OpTo.callG #[.float .f64 m] 7 rfl rfl Try.func11 (by kernel_rfl) (by kernel_rfl) (argE1 (hE 6 (by kernel_rfl))) (cT (H1.out w)) (fun _ => rfl)) ?_
      refine FStepsW.cons (FStepW.plain rfl fun a w hS hE => OpTo.pureG (v := .pointer (some ⟨wA.heap.size + 1, 0, none⟩)) 8 rfl (by have h3 : a.eval (.tmp 3) = .pointer (some ⟨wA.heap.size + 1, 0, none⟩) := hE 3 (by kernel_rfl); unfold execOp; simp only [h3]; go_simp) rfl) ?_
      refine FStepsW.cons (FStepW.plain rfl fun a w hS hE => OpTo.pureG (v := .float .f64 m') 9 rfl (by have h8 : a.eval (.tmp 8) = .pointer (some ⟨wA.heap.size + 1, 0, none⟩) := hE 8 (by kernel_rfl); have hcell : w.cell? ⟨wA.heap.size + 1, 0, none⟩ = some (.float .f64 m') := ((HB2.out.touch hS (by simp)).cell 0).trans rfl; unfold execOp; simp only [h8]; go_simp) rfl) ?_
      refine FStepsW.cons (FStepW.plain rfl fun a w hS hE => OpTo.callG #[.float .f64 m'] 10 rfl rfl Try.func11 (by kernel_rfl) (by kernel_rfl) (argE1 (hE 9 (by kernel_rfl))) (cT (H2.out w)) (fun _ => rfl)) ?_
      refine FStepsW.cons (FStepW.plain rfl fun a w hS hE => OpTo.pureG (v := .bool false) 11 rfl (by have h7 : a.eval (.tmp 7) = .int .u64 (x1 : Int) := hE 7 (by kernel_rfl); have h10 : a.eval (.tmp 10) = .int .u64 (x2 : Int) := hE 10 (by kernel_rfl); have q := d1.out; unfold execOp; simp only [h10, h7]; go_simp) rfl) ?_
      refine FStepsW.cons (FStepW.plain rfl fun a w hS hE => OpTo.moveG 12 rfl rfl (hE 11 (by kernel_rfl))) ?_
      refine FStepsW.cons (FStepW.no 12 rfl rfl (fun _ _ h => h) (fun _ => dOfW.of 13 rfl rfl)) ?_
      refine FStepsW.cons (FStepW.no 12 rfl rfl (fun _ _ h => h) (fun _ => dOfW.of 14 rfl rfl)) ?_
      refine FStepsW.cons (FStepW.no 12 rfl rfl (fun _ _ h => h) (fun _ => dOfW.of 15 rfl rfl)) ?_
      refine FStepsW.cons (FStepW.no 12 rfl rfl (fun _ _ h => h) (fun _ => dOfW.of 16 rfl rfl)) ?_
      refine FStepsW.cons (FStepW.no 12 rfl rfl (fun _ _ h => h) (fun _ => dOfW.of 17 rfl rfl)) ?_
      refine FStepsW.cons (FStepW.no 12 rfl rfl (fun _ _ h => h) (fun _ => dOfW.of 18 rfl rfl)) ?_
      refine FStepsW.cons (FStepW.no 12 rfl rfl (fun _ _ h => h) (fun _ => dOfW.of 19 rfl rfl)) ?_
      refine FStepsW.cons (FStepW.plain rfl fun a w hS hE => OpTo.pickG false 20 rfl rfl (hE 12 (by kernel_rfl)) rfl) ?_
      refine FStepsW.cons (FStepW.plain rfl fun a w hS hE => OpTo.moveG 21 rfl rfl (hE 20 (by kernel_rfl))) ?_
      refine FStepsW.cons (FStepW.no 21 rfl rfl (fun _ _ h => h) (fun _ => dOfW.of 22 rfl rfl)) ?_
      refine FStepsW.cons (FStepW.no 21 rfl rfl (fun _ _ h => h) (fun _ => dOfW.of 23 rfl rfl)) ?_
      refine FStepsW.cons (FStepW.no 21 rfl rfl (fun _ _ h => h) (fun _ => dOfW.of 24 rfl rfl)) ?_
      refine FStepsW.cons (FStepW.no 21 rfl rfl (fun _ _ h => h) (fun _ => dOfW.of 25 rfl rfl)) ?_
      refine FStepsW.cons (FStepW.no 21 rfl rfl (fun _ _ h => h) (fun _ => dOfW.of 26 rfl rfl)) ?_
      refine FStepsW.cons (FStepW.no 21 rfl rfl (fun _ _ h => h) (fun _ => dOfW.of 27 rfl rfl)) ?_
      refine FStepsW.cons (FStepW.no 21 rfl rfl (fun _ _ h => h) (fun _ => dOfW.of 28 rfl rfl)) ?_
      refine FStepsW.cons (FStepW.plain rfl fun a w hS hE => OpTo.pickG false 29 rfl rfl (hE 21 (by kernel_rfl)) rfl) ?_
      refine FStepsW.cons (FStepW.plain rfl fun a w hS hE => OpTo.moveG 30 rfl rfl (hE 29 (by kernel_rfl))) ?_
      refine FStepsW.cons (FStepW.no 30 rfl rfl (fun _ _ h => h) (fun _ => dOfW.of 31 rfl rfl)) ?_
      refine FStepsW.cons (FStepW.no 30 rfl rfl (fun _ _ h => h) (fun _ => dOfW.of 32 rfl rfl)) ?_
      refine FStepsW.cons (FStepW.no 30 rfl rfl (fun _ _ h => h) (fun _ => dOfW.of 33 rfl rfl)) ?_
      refine FStepsW.cons (FStepW.no 30 rfl rfl (fun _ _ h => h) (fun _ => dOfW.of 34 rfl rfl)) ?_
      refine FStepsW.cons (FStepW.no 30 rfl rfl (fun _ _ h => h) (fun _ => dOfW.of 35 rfl rfl)) ?_
      refine FStepsW.cons (FStepW.plain rfl fun a w hS hE => OpTo.pickG false 36 rfl rfl (hE 30 (by kernel_rfl)) rfl) ?_
      refine FStepsW.cons (FStepW.plain rfl fun a w hS hE => OpTo.assignG 4 rfl rfl (hE 36 (by kernel_rfl))) ?_
      exact FStepsW.nil
    intro f wx hS hF
    obtain ⟨h4, -⟩ := hF
    replace h4 : f 4 = .bool false := h4
    simp only [setAll, List.setIfInBounds_toArray, List.set_cons_zero, List.set_cons_succ, h4]
    show wpList _ _ _ [] _ _
    -- END
    have HT := Lib.hid ((((Touch.refl [] wA).alloc _).alloc _).trans hS)
    clear hS h4
    go_wp2_with fail
    go_ret
    exact ⟨ret_bool rfl, HT.out⟩
set_option maxRecDepth 100000 in
set_option maxHeartbeats 2000000 in
theorem rsame_any (m l h m' l' h' : Nat) (n n' : Int) (hm : m < 18446744073709551616) (hl : l < 18446744073709551616) (hh : h < 18446744073709551616) (hm' : m' < 18446744073709551616) (hl' : l' < 18446744073709551616) (hh' : h' < 18446744073709551616) (wA : World) :
    Calls Try.prog 21 #[gV m l h n, gV m' l' h' n'] wA fun e w' => e = .returned (.bool (alike m l h n m' l' h' n')) ∧ Touch [] wA w' := by
  have H1 := Lib.hid (fun W : World => rbits_any m hm W)
  have H2 := Lib.hid (fun W : World => rbits_any m' hm' W)
  have H3 := Lib.hid (fun W : World => rbits_any l hl W)
  have H4 := Lib.hid (fun W : World => rbits_any l' hl' W)
  have H5 := Lib.hid (fun W : World => rbits_any h hh W)
  have H6 := Lib.hid (fun W : World => rbits_any h' hh' W)
  obtain ⟨hb1, hb2⟩ := box2 wA 35 #[.float .f64 m, .float .f64 l, .float .f64 h, .int .u64 n] #[.float .f64 m', .float .f64 l', .float .f64 h', .int .u64 n']
  have HB1 := Lib.hid hb1
  have HB2 := Lib.hid hb2
  unfold alike
  clear hm hl hh hm' hl' hh' hb1 hb2
  generalize bitsF m = x1 at *
  generalize bitsF m' = x2 at *
  generalize bitsF l = x3 at *
  generalize bitsF l' = x4 at *
  generalize bitsF h = x5 at *
  generalize bitsF h' = x6 at *
  by_cases c1 : x1 = x2
  · have d1 := Lib.hid (show ((x1 : Int) == (x2 : Int)) = true from beq_iff_eq.2 (by omega))
    rw [decide_eq_true c1]
    by_cases c2 : x3 = x4
    · have d2 := Lib.hid (show ((x3 : Int) == (x4 : Int)) = true from beq_iff_eq.2 (by omega))
      rw [decide_eq_true c2]
      by_cases c3 : x5 = x6
      · have d3 := Lib.hid (show ((x5 : Int) == (x6 : Int)) = true from beq_iff_eq.2 (by omega))
        rw [decide_eq_true c3]
        clear c1 c2 c3
        obtain ⟨b, hb⟩ : ∃ b, b = decide (n = n') := ⟨_, rfl⟩
        have d4 := Lib.hid (show (n == n') = b by rw [hb]; rfl)
        have HE := Lib.hid (show b = (true && (true && (true && decide (n = n')))) by rw [hb]; rfl)
        clear hb
        go_enter Try.func21, Try.ntmps21
        go_wp2_with fail
        -- GF rsame3
        refine wp_region_flowT (by kernel_rfl) 33 (lookW [(2, pu (isV (.pointer (some ⟨wA.heap.size, 0, none⟩)))), (3, pu (isV (.pointer (some ⟨wA.heap.size + 1, 0, none⟩)))), (5, pu (isV (.pointer (some ⟨wA.heap.size, 0, none⟩)))), (6, pu (isV (.float .f64 m))), (7, pu (isV (.int .u64 (x1 : Int)))), (8, pu (isV (.pointer (some ⟨wA.heap.size + 1, 0, none⟩)))), (9, pu (isV (.float .f64 m'))), (10, pu (isV (.int .u64 (x2 : Int)))), (11, pu (isV (.bool true))), (12, pu (isV (.bool true))), (13, pu (isV (.pointer (some ⟨wA.heap.size, 1, none⟩)))), (14, pu (isV (.float .f64 l))), (15, pu (isV (.int .u64 (x3 : Int)))), (16, pu (isV (.pointer (some ⟨wA.heap.size + 1, 1, none⟩)))), (17, pu (isV (.float .f64 l'))), (18, pu (isV (.int .u64 (x4 : Int)))), (19, pu (isV (.bool true))), (20, pu (isV (.bool true))), (21, pu (isV (.bool true))), (22, pu (isV (.pointer (some ⟨wA.heap.size, 2, none⟩)))), (23, pu (isV (.float .f64 h))), (24, pu (isV (.int .u64 (x5 : Int)))), (25, pu (isV (.pointer (some ⟨wA.heap.size + 1, 2, none⟩)))), (26, pu (isV (.float .f64 h'))), (27, pu (isV (.int .u64 (x6 : Int)))), (28, pu (isV (.bool true))), (29, pu (isV (.bool true))), (30, pu (isV (.bool true))), (31, pu (isV (.pointer (some ⟨wA.heap.size, 3, none⟩)))), (32, pu (isV (.int .u64 n))), (33, pu (isV (.pointer (some ⟨wA.heap.size + 1, 3, none⟩)))), (34, pu (isV (.int .u64 n'))), (35, pu (isV (.bool b))), (36, pu (isV (.bool b))), (4, pu (isV (.bool b)))]) [2, 3] [5, 6, 7, 8, 9, 10, 11, 12, 13, 14, 15, 16, 17, 18, 19, 20, 21, 22, 23, 24, 25, 26, 27, 28, 29, 30, 31, 32, 33, 34, 35, 36, 4] [4] (by kernel_rfl) (by kernel_rfl) (by kernel_rfl) (by kernel_rfl) ⟨rfl, rfl, trivial⟩ ?_ ?_
        · refine FStepsW.cons (FStepW.plain rfl fun a w hS hE => OpTo.pureG (v := .pointer (some ⟨wA.heap.size, 0, none⟩)) 5 rfl (by have h2 : a.eval (.tmp 2) = .pointer (some ⟨wA.heap.size, 0, none⟩) := hE 2 (by kernel_rfl); unfold execOp; simp only [h2]; go_simp) rfl) ?_
          refine FStepsW.cons (FStepW.plain rfl fun a w hS hE => OpTo.pureG (v := .float .f64 m) 6 rfl (by have h5 : a.eval (.tmp 5) = .pointer (some ⟨wA.heap.size, 0, none⟩) := hE 5 (by kernel_rfl); have hcell : w.cell? ⟨wA.heap.size, 0, none⟩ = some (.float .f64 m) := ((HB1.out.touch hS (by simp)).cell 0).trans rfl; unfold execOp; simp only [h5]; go_simp) rfl) ?_
          refine FStepsW.cons (FStepW.plain rfl fun a w hS hE => OpTo.callG #[.float .f64 m] 7 rfl rfl Try.func12 (by kernel_rfl) (by kernel_rfl) (argE1 (hE 6 (by kernel_rfl))) (cT (H1.out w)) (fun _ => rfl)) ?_
          refine FStepsW.cons (FStepW.plain rfl fun a w hS hE => OpTo.pureG (v := .pointer (some ⟨wA.heap.size + 1, 0, none⟩)) 8 rfl (by have h3 : a.eval (.tmp 3) = .pointer (some ⟨wA.heap.size + 1, 0, none⟩) := hE 3 (by kernel_rfl); unfold execOp; simp only [h3]; go_simp) rfl) ?_
          refine FStepsW.cons (FStepW.plain rfl fun a w hS hE => OpTo.pureG (v := .float .f64 m') 9 rfl (by have h8 : a.eval (.tmp 8) = .pointer (some ⟨wA.heap.size + 1, 0, none⟩) := hE 8 (by kernel_rfl); have hcell : w.cell? ⟨wA.heap.size + 1, 0, none⟩ = some (.float .f64 m') := ((HB2.out.touch hS (by simp)).cell 0).trans rfl; unfold execOp; simp only [h8]; go_simp) rfl) ?_
          refine FStepsW.cons (FStepW.plain rfl fun a w hS hE => OpTo.callG #[.float .f64 m'] 10 rfl rfl Try.func12 (by kernel_rfl) (by kernel_rfl) (argE1 (hE 9 (by kernel_rfl))) (cT (H2.out w)) (fun _ => rfl)) ?_
          refine FStepsW.cons (FStepW.plain rfl fun a w hS hE => OpTo.pureG (v := .bool true) 11 rfl (by have h7 : a.eval (.tmp 7) = .int .u64 (x1 : Int) := hE 7 (by kernel_rfl); have h10 : a.eval (.tmp 10) = .int .u64 (x2 : Int) := hE 10 (by kernel_rfl); have q := d1.out; unfold execOp; simp only [h10, h7]; go_simp) rfl) ?_
          refine FStepsW.cons (FStepW.plain rfl fun a w hS hE => OpTo.moveG 12 rfl rfl (hE 11 (by kernel_rfl))) ?_
          refine FStepsW.cons (FStepW.go 12 rfl rfl (fun _ _ h => h) fun a w hS hE => OpTo.pureG (v := .pointer (some ⟨wA.heap.size, 1, none⟩)) 13 rfl (by have h2 : a.eval (.tmp 2) = .pointer (some ⟨wA.heap.size, 0, none⟩) := hE 2 (by kernel_rfl); unfold execOp; simp only [h2]; go_simp) rfl) ?_
          refine FStepsW.cons (FStepW.go 12 rfl rfl (fun _ _ h => h) fun a w hS hE => OpTo.pureG (v := .float .f64 l) 14 rfl (by have h13 : a.eval (.tmp 13) = .pointer (some ⟨wA.heap.size, 1, none⟩) := hE 13 (by kernel_rfl); have hcell : w.cell? ⟨wA.heap.size, 1, none⟩ = some (.float .f64 l) := ((HB1.out.touch hS (by simp)).cell 1).trans rfl; unfold execOp; simp only [h13]; go_simp) rfl) ?_
          refine FStepsW.cons (FStepW.go 12 rfl rfl (fun _ _ h => h) fun a w hS hE => OpTo.callG #[.float .f64 l] 15 rfl rfl Try.func12 (by kernel_rfl) (by kernel_rfl) (argE1 (hE 14 (by kernel_rfl))) (cT (H3.out w)) (fun _ => rfl)) ?_
          refine FStepsW.cons (FStepW.go 12 rfl rfl (fun _ _ h => h) fun a w hS hE => OpTo.pureG (v := .pointer (some ⟨wA.heap.size + 1, 1, none⟩)) 16 rfl (by have h3 : a.eval (.tmp 3) = .pointer (some ⟨wA.heap.size + 1, 0, none⟩) := hE 3 (by kernel_rfl); unfold execOp; simp only [h3]; go_simp) rfl) ?_
          refine FStepsW.cons (FStepW.go 12 rfl rfl (fun _ _ h => h) fun a w hS hE => OpTo.pureG (v := .float .f64 l') 17 rfl (by have h16 : a.eval (.tmp 16) = .pointer (some ⟨wA.heap.size + 1, 1, none⟩) := hE 16 (by kernel_rfl); have hcell : w.cell? ⟨wA.heap.size + 1, 1, none⟩ = some (.float .f64 l') := ((HB2.out.touch hS (by simp)).cell 1).trans rfl; unfold execOp; simp only [h16]; go_simp) rfl) ?_
          refine FStepsW.cons (FStepW.go 12 rfl rfl (fun _ _ h => h) fun a w hS hE => OpTo.callG #[.float .f64 l'] 18 rfl rfl Try.func12 (by kernel_rfl) (by kernel_rfl) (argE1 (hE 17 (by kernel_rfl))) (cT (H4.out w)) (fun _ => rfl)) ?_
          refine FStepsW.cons (FStepW.go 12 rfl rfl (fun _ _ h => h) fun a w hS hE => OpTo.pureG (v := .bool true) 19 rfl (by have h15 : a.eval (.tmp 15) = .int .u64 (x3 : Int) := hE 15 (by kernel_rfl); have h18 : a.eval (.tmp 18) = .int .u64 (x4 : Int) := hE 18 (by kernel_rfl); have q := d2.out; unfold execOp; simp only [h15, h18]; go_simp) rfl) ?_
          refine FStepsW.cons (FStepW.plain rfl fun a w hS hE => OpTo.pickG true 20 rfl rfl (hE 12 (by kernel_rfl)) (hE 19 (by kernel_rfl))) ?_
          refine FStepsW.cons (FStepW.plain rfl fun a w hS hE => OpTo.moveG 21 rfl rfl (hE 20 (by kernel_rfl))) ?_
          refine FStepsW.cons (FStepW.go 21 rfl rfl (fun _ _ h => h) fun a w hS hE => OpTo.pureG (v := .pointer (some ⟨wA.heap.size, 2, none⟩)) 22 rfl (by have h2 : a.eval (.tmp 2) = .pointer (some ⟨wA.heap.size, 0, none⟩) := hE 2 (by kernel_rfl); unfold execOp; simp only [h2]; go_simp) rfl) ?_
          refine FStepsW.cons (FStepW.go 21 rfl rfl (fun _ _ h => h) fun a w hS hE => OpTo.pureG (v := .float .f64 h) 23 rfl (by have h22 : a.eval (.tmp 22) = .pointer (some ⟨wA.heap.size, 2, none⟩) := hE 22 (by kernel_rfl); have hcell : w.cell? ⟨wA.heap.size, 2, none⟩ = some (.float .f64 h) := ((HB1.out.touch hS (by simp)).cell 2).trans rfl; unfold execOp; simp only [h22]; go_simp) rfl) ?_
          refine FStepsW.cons (FStepW.go 21 rfl rfl (fun _ _ h => h) fun a w hS hE => OpTo.callG #[.float .f64 h] 24 rfl rfl Try.func12 (by kernel_rfl) (by kernel_rfl) (argE1 (hE 23 (by kernel_rfl))) (cT (H5.out w)) (fun _ => rfl)) ?_
          refine FStepsW.cons (FStepW.go 21 rfl rfl (fun _ _ h => h) fun a w hS hE => OpTo.pureG (v := .pointer (some ⟨wA.heap.size + 1, 2, none⟩)) 25 rfl (by have h3 : a.eval (.tmp 3) = .pointer (some ⟨wA.heap.size + 1, 0, none⟩) := hE 3 (by kernel_rfl); unfold execOp; simp only [h3]; go_simp) rfl) ?_
          refine FStepsW.cons (FStepW.go 21 rfl rfl (fun _ _ h => h) fun a w hS hE => OpTo.pureG (v := .float .f64 h') 26 rfl (by have h25 : a.eval (.tmp 25) = .pointer (some ⟨wA.heap.size + 1, 2, none⟩) := hE 25 (by kernel_rfl); have hcell : w.cell? ⟨wA.heap.size + 1, 2, none⟩ = some (.float .f64 h') := ((HB2.out.touch hS (by simp)).cell 2).trans rfl; unfold execOp; simp only [h25]; go_simp) rfl) ?_
          refine FStepsW.cons (FStepW.go 21 rfl rfl (fun _ _ h => h) fun a w hS hE => OpTo.callG #[.float .f64 h'] 27 rfl rfl Try.func12 (by kernel_rfl) (by kernel_rfl) (argE1 (hE 26 (by kernel_rfl))) (cT (H6.out w)) (fun _ => rfl)) ?_
          refine FStepsW.cons (FStepW.go 21 rfl rfl (fun _ _ h => h) fun a w hS hE => OpTo.pureG (v := .bool true) 28 rfl (by have h24 : a.eval (.tmp 24) = .int .u64 (x5 : Int) := hE 24 (by kernel_rfl); have h27 : a.eval (.tmp 27) = .int .u64 (x6 : Int) := hE 27 (by kernel_rfl); have q := d3.out; unfold execOp; simp only [h24, h27]; go_simp) rfl) ?_
          refine FStepsW.cons (FStepW.plain rfl fun a w hS hE => OpTo.pickG true 29 rfl rfl (hE 21 (by kernel_rfl)) (hE 28 (by kernel_rfl))) ?_
          refine FStepsW.cons (FStepW.plain rfl fun a w hS hE => OpTo.moveG 30 rfl rfl (hE 29 (by kernel_rfl))) ?_
          refine FStepsW.cons (FStepW.go 30 rfl rfl (fun _ _ h => h) fun a w hS hE => OpTo.pureG (v := .pointer (some ⟨wA.heap.size, 3, none⟩)) 31 rfl (by have h2 : a.eval (.tmp 2) = .pointer (some ⟨wA.heap.size, 0, none⟩) := hE 2 (by kernel_rfl); unfold execOp; simp only [h2]; go_simp) rfl) ?_
          refine FStepsW.cons (FStepW.go 30 rfl rfl (fun _ _ h => h) fun a w hS hE => OpTo.pureG (v := .int .u64 n) 32 rfl (by have h31 : a.eval (.tmp 31) = .pointer (some ⟨wA.heap.size, 3, none⟩) := hE 31 (by kernel_rfl); have hcell : w.cell? ⟨wA.heap.size, 3, none⟩ = some (.int .u64 n) := ((HB1.out.touch hS (by simp)).cell 3).trans rfl; unfold execOp; simp only [h31]; go_simp) rfl) ?_
          refine FStepsW.cons (FStepW.go 30 rfl rfl (fun _ _ h => h) fun a w hS hE => OpTo.pureG (v := .pointer (some ⟨wA.heap.size + 1, 3, none⟩)) 33 rfl (by have h3 : a.eval (.tmp 3) = .pointer (some ⟨wA.heap.size + 1, 0, none⟩) := hE 3 (by kernel_rfl); unfold execOp; simp only [h3]; go_simp) rfl) ?_
          refine FStepsW.cons (FStepW.go 30 rfl rfl (fun _ _ h => h) fun a w hS hE => OpTo.pureG (v := .int .u64 n') 34 rfl (by have h33 : a.eval (.tmp 33) = .pointer (some ⟨wA.heap.size + 1, 3, none⟩) := hE 33 (by kernel_rfl); have hcell : w.cell? ⟨wA.heap.size + 1, 3, none⟩ = some (.int .u64 n') := ((HB2.out.touch hS (by simp)).cell 3).trans rfl; unfold execOp; simp only [h33]; go_simp) rfl) ?_
          refine FStepsW.cons (FStepW.go 30 rfl rfl (fun _ _ h => h) fun a w hS hE => OpTo.pureG (v := .bool b) 35 rfl (by have h32 : a.eval (.tmp 32) = .int .u64 n := hE 32 (by kernel_rfl); have h34 : a.eval (.tmp 34) = .int .u64 n' := hE 34 (by kernel_rfl); have q := d4.out; unfold execOp; simp only [h32, h34]; go_simp) rfl) ?_
          refine FStepsW.cons (FStepW.plain rfl fun a w hS hE => OpTo.pickG true 36 rfl rfl (hE 30 (by kernel_rfl)) (hE 35 (by kernel_rfl))) ?_
          refine FStepsW.cons (FStepW.plain rfl fun a w hS hE => OpTo.assignG 4 rfl rfl (hE 36 (by kernel_rfl))) ?_
          exact FStepsW.nil
        intro f wx hS hF
        obtain ⟨h4, -⟩ := hF
        replace h4 : f 4 = .bool b := h4
        simp only [setAll, List.setIfInBounds_toArray, List.set_cons_zero, List.set_cons_succ, h4]
        show wpList _ _ _ [] _ _
        -- END
        have HT := Lib.hid ((((Touch.refl [] wA).alloc _).alloc _).trans hS)
        clear hS h4
        go_wp2_with fail
        go_ret
        exact ⟨ret_bool HE.out, HT.out⟩
      · have d3 := Lib.hid (show ((x5 : Int) == (x6 : Int)) = false from beq_eq_false_iff_ne.2 (by omega))
        rw [decide_eq_false c3]
        clear c1 c2 c3
        go_enter Try.func21, Try.ntmps21
        go_wp2_with fail
        -- GF rsame2
        refine wp_region_flowT (by kernel_rfl) 33 (lookW [(2, pu (isV (.pointer (some ⟨wA.heap.size, 0, none⟩)))), (3, pu (isV (.pointer (some ⟨wA.heap.size + 1, 0, none⟩)))), (5, pu (isV (.pointer (some ⟨wA.heap.size, 0, none⟩)))), (6, pu (isV (.float .f64 m))), (7, pu (isV (.int .u64 (x1 : Int)))), (8, pu (isV (.pointer (some ⟨wA.heap.size + 1, 0, none⟩)))), (9, pu (isV (.float .f64 m'))), (10, pu (isV (.int .u64 (x2 : Int)))), (11, pu (isV (.bool true))), (12, pu (isV (.bool true))), (13, pu (isV (.pointer (some ⟨wA.heap.size, 1, none⟩)))), (14, pu (isV (.float .f64 l))), (15, pu (isV (.int .u64 (x3 : Int)))), (16, pu (isV (.pointer (some ⟨wA.heap.size + 1, 1, none⟩)))), (17, pu (isV (.float .f64 l'))), (18, pu (isV (.int .u64 (x4 : Int)))), (19, pu (isV (.bool true))), (20, pu (isV (.bool true))), (21, pu (isV (.bool true))), (22, pu (isV (.pointer (some ⟨wA.heap.size, 2, none⟩)))), (23, pu (isV (.float .f64 h))), (24, pu (isV (.int .u64 (x5 : Int)))), (25, pu (isV (.pointer (some ⟨wA.heap.size + 1, 2, none⟩)))), (26, pu (isV (.float .f64 h'))), (27, pu (isV (.int .u64 (x6 : Int)))), (28, pu (isV (.bool false))), (29, pu (isV (.bool false))), (30, pu (isV (.bool false))), (31, pu (isV (undef))), (32, pu (isV (undef))), (33, pu (isV (undef))), (34, pu (isV (undef))), (35, pu (isV (undef))), (36, pu (isV (.bool false))), (4, pu (isV (.bool false)))]) [2, 3] [5, 6, 7, 8, 9, 10, 11, 12, 13, 14, 15, 16, 17, 18, 19, 20, 21, 22, 23, 24, 25, 26, 27, 28, 29, 30, 31, 32, 33, 34, 35, 36, 4] [4] (by kernel_rfl) (by kernel_rfl) (by kernel_rfl) (by kernel_rfl) ⟨rfl, rfl, trivial⟩ ?_ ?_
        · refine FStepsW.cons (FStepW.plain rfl fun a w hS hE => OpTo.pureG (v := .pointer (some ⟨wA.heap.size, 0, none⟩)) 5 rfl (by have h2 : a.eval (.tmp 2) = .pointer (some ⟨wA.heap.size, 0, none⟩) := hE 2 (by kernel_rfl); unfold execOp; simp only [h2]; go_simp) rfl) ?_
          refine FStepsW.cons (FStepW.plain rfl fun a w hS hE => OpTo.pureG (v := .float .f64 m) 6 rfl (by have h5 : a.eval (.tmp 5) = .pointer (some ⟨wA.heap.size, 0, none⟩) := hE 5 (by kernel_rfl); have hcell : w.cell? ⟨wA.heap.size, 0, none⟩ = some (.float .f64 m) := ((HB1.out.touch hS (by simp)).cell 0).trans rfl; unfold execOp; simp only [h5]; go_simp) rfl) ?_
          refine FStepsW.cons (FStepW.plain rfl fun a w hS hE => OpTo.callG #[.float .f64 m] 7 rfl rfl Try.func12 (by kernel_rfl) (by kernel_rfl) (argE1 (hE 6 (by kernel_rfl))) (cT (H1.out w)) (fun _ => rfl)) ?_
          refine FStepsW.cons (FStepW.plain rfl fun a w hS hE => OpTo.pureG (v := .pointer (some ⟨wA.heap.size + 1, 0, none⟩)) 8 rfl (by have h3 : a.eval (.tmp 3) = .pointer (some ⟨wA.heap.size + 1, 0, none⟩) := hE 3 (by kernel_rfl); unfold execOp; simp only [h3]; go_simp) rfl) ?_
          refine FStepsW.cons (FStepW.plain rfl fun a w hS hE => OpTo.pureG (v := .float .f64 m') 9 rfl (by have h8 : a.eval (.tmp 8) = .pointer (some ⟨wA.heap.size + 1, 0, none⟩) := hE 8 (by kernel_rfl); have hcell : w.cell? ⟨wA.heap.size + 1, 0, none⟩ = some (.float .f64 m') := ((HB2.out.touch hS (by simp)).cell 0).trans rfl; unfold execOp; simp only [h8]; go_simp) rfl) ?_
          refine FStepsW.cons (FStepW.plain rfl fun a w hS hE => OpTo.callG #[.float .f64 m'] 10 rfl rfl Try.func12 (by kernel_rfl) (by kernel_rfl) (argE1 (hE 9 (by kernel_rfl))) (cT (H2.out w)) (fun _ => rfl)) ?_
          refine FStepsW.cons (FStepW.plain rfl fun a w hS hE => OpTo.pureG (v := .bool true) 11 rfl (by have h7 : a.eval (.tmp 7) = .int .u64 (x1 : Int) := hE 7 (by kernel_rfl); have h10 : a.eval (.tmp 10) = .int .u64 (x2 : Int) := hE 10 (by kernel_rfl); have q := d1.out; unfold execOp; simp only [h10, h7]; go_simp) rfl) ?_
          refine FStepsW.cons (FStepW.plain rfl fun a w hS hE => OpTo.moveG 12 rfl rfl (hE 11 (by kernel_rfl))) ?_
          refine FStepsW.cons (FStepW.go 12 rfl rfl (fun _ _ h => h) fun a w hS hE => OpTo.pureG (v := .pointer (some ⟨wA.heap.size, 1, none⟩)) 13 rfl (by have h2 : a.eval (.tmp 2) = .pointer (some ⟨wA.heap.size, 0, none⟩) := hE 2 (by kernel_rfl); unfold execOp; simp only [h2]; go_simp) rfl) ?_
          refine FStepsW.cons (FStepW.go 12 rfl rfl (fun _ _ h => h) fun a w hS hE => OpTo.pureG (v := .float .f64 l) 14 rfl (by have h13 : a.eval (.tmp 13) = .pointer (some ⟨wA.heap.size, 1, none⟩) := hE 13 (by kernel_rfl); have hcell : w.cell? ⟨wA.heap.size, 1, none⟩ = some (.float .f64 l) := ((HB1.out.touch hS (by simp)).cell 1).trans rfl; unfold execOp; simp only [h13]; go_simp) rfl) ?_
          refine FStepsW.cons (FStepW.go 12 rfl rfl (fun _ _ h => h) fun a w hS hE => OpTo.callG #[.float .f64 l] 15 rfl rfl Try.func12 (by kernel_rfl) (by kernel_rfl) (argE1 (hE 14 (by kernel_rfl))) (cT (H3.out w)) (fun _ => rfl)) ?_
          refine FStepsW.cons (FStepW.go 12 rfl rfl (fun _ _ h => h) fun a w hS hE => OpTo.pureG (v := .pointer (some ⟨wA.heap.size + 1, 1, none⟩)) 16 rfl (by have h3 : a.eval (.tmp 3) = .pointer (some ⟨wA.heap.size + 1, 0, none⟩) := hE 3 (by kernel_rfl); unfold execOp; simp only [h3]; go_simp) rfl) ?_
          refine FStepsW.cons (FStepW.go 12 rfl rfl (fun _ _ h => h) fun a w hS hE => OpTo.pureG (v := .float .f64 l') 17 rfl (by have h16 : a.eval (.tmp 16) = .pointer (some ⟨wA.heap.size + 1, 1, none⟩) := hE 16 (by kernel_rfl); have hcell : w.cell? ⟨wA.heap.size + 1, 1, none⟩ = some (.float .f64 l') := ((HB2.out.touch hS (by simp)).cell 1).trans rfl; unfold execOp; simp only [h16]; go_simp) rfl) ?_
          refine FStepsW.cons (FStepW.go 12 rfl rfl (fun _ _ h => h) fun a w hS hE => OpTo.callG #[.float .f64 l'] 18 rfl rfl Try.func12 (by kernel_rfl) (by kernel_rfl) (argE1 (hE 17 (by kernel_rfl))) (cT (H4.out w)) (fun _ => rfl)) ?_
          refine FStepsW.cons (FStepW.go 12 rfl rfl (fun _ _ h => h) fun a w hS hE => OpTo.pureG (v := .bool true) 19 rfl (by have h15 : a.eval (.tmp 15) = .int .u64 (x3 : Int) := hE 15 (by kernel_rfl); have h18 : a.eval (.tmp 18) = .int .u64 (x4 : Int) := hE 18 (by kernel_rfl); have q := d2.out; unfold execOp; simp only [h15, h18]; go_simp) rfl) ?_
          refine FStepsW.cons (FStepW.plain rfl fun a w hS hE => OpTo.pickG true 20 rfl rfl (hE 12 (by kernel_rfl)) (hE 19 (by kernel_rfl))) ?_
          refine FStepsW.cons (FStepW.plain rfl fun a w hS hE => OpTo.moveG 21 rfl rfl (hE 20 (by kernel_rfl))) ?_
          refine FStepsW.cons (FStepW.go 21 rfl rfl (fun _ _ h => h) fun a w hS hE => OpTo.pureG (v := .pointer (some ⟨wA.heap.size, 2, none⟩)) 22 rfl (by have h2 : a.eval (.tmp 2) = .pointer (some ⟨wA.heap.size, 0, none⟩) := hE 2 (by kernel_rfl); unfold execOp; simp only [h2]; go_simp) rfl) ?_
          refine FStepsW.cons (FStepW.go 21 rfl rfl (fun _ _ h => h) fun a w hS hE => OpTo.pureG (v := .float .f64 h) 23 rfl (by have h22 : a.eval (.tmp 22) = .pointer (some ⟨wA.heap.size, 2, none⟩) := hE 22 (by kernel_rfl); have hcell : w.cell? ⟨wA.heap.size, 2, none⟩ = some (.float .f64 h) := ((HB1.out.touch hS (by simp)).cell 2).trans rfl; unfold execOp; simp only [h22]; go_simp) rfl) ?_
          refine FStepsW.cons (FStepW.go 21 rfl rfl (fun _ _ h => h) fun a w hS hE => OpTo.callG #[.float .f64 h] 24 rfl rfl Try.func12 (by kernel_rfl) (by kernel_rfl) (argE1 (hE 23 (by kernel_rfl))) (cT (H5.out w)) (fun _ => rfl)) ?_
          refine FStepsW.cons (FStepW.go 21 rfl rfl (fun _ _ h => h) fun a w hS hE => OpTo.pureG (v := .pointer (some ⟨wA.heap.size + 1, 2, none⟩)) 25 rfl (by have h3 : a.eval (.tmp 3) = .pointer (some ⟨wA.heap.size + 1, 0, none⟩) := hE 3 (by kernel_rfl); unfold execOp; simp only [h3]; go_simp) rfl) ?_
          refine FStepsW.cons (FStepW.go 21 rfl rfl (fun _ _ h => h) fun a w hS hE => OpTo.pureG (v := .float .f64 h') 26 rfl (by have h25 : a.eval (.tmp 25) = .pointer (some ⟨wA.heap.size + 1, 2, none⟩) := hE 25 (by kernel_rfl); have hcell : w.cell? ⟨wA.heap.size + 1, 2, none⟩ = some (.float .f64 h') := ((HB2.out.touch hS (by simp)).cell 2).trans rfl; unfold execOp; simp only [h25]; go_simp) rfl) ?_
          refine FStepsW.cons (FStepW.go 21 rfl rfl (fun _ _ h => h) fun a w hS hE => OpTo.callG #[.float .f64 h'] 27 rfl rfl Try.func12 (by kernel_rfl) (by kernel_rfl) (argE1 (hE 26 (by kernel_rfl))) (cT (H6.out w)) (fun _ => rfl)) ?_
          refine FStepsW.cons (FStepW.go 21 rfl rfl (fun _ _ h => h) fun a w hS hE => OpTo.pureG (v := .bool false) 28 rfl (by have h24 : a.eval (.tmp 24) = .int .u64 (x5 : Int) := hE 24 (by kernel_rfl); have h27 : a.eval (.tmp 27) = .int .u64 (x6 : Int) := hE 27 (by kernel_rfl); have q := d3.out; unfold execOp; simp only [h24, h27]; go_simp) rfl) ?_
          refine FStepsW.cons (FStepW.plain rfl fun a w hS hE => OpTo.pickG true 29 rfl rfl (hE 21 (by kernel_rfl)) (hE 28 (by kernel_rfl))) ?_
          refine FStepsW.cons (FStepW.plain rfl fun a w hS hE => OpTo.moveG 30 rfl rfl (hE 29 (by kernel_rfl))) ?_
          refine FStepsW.cons (FStepW.no 30 rfl rfl (fun _ _ h => h) (fun _ => dOfW.of 31 rfl rfl)) ?_
          refine FStepsW.cons (FStepW.no 30 rfl rfl (fun _ _ h => h) (fun _ => dOfW.of 32 rfl rfl)) ?_
          refine FStepsW.cons (FStepW.no 30 rfl rfl (fun _ _ h => h) (fun _ => dOfW.of 33 rfl rfl)) ?_
          refine FStepsW.cons (FStepW.no 30 rfl rfl (fun _ _ h => h) (fun _ => dOfW.of 34 rfl rfl)) ?_
          refine FStepsW.cons (FStepW.no 30 rfl rfl (fun _ _ h => h) (fun _ => dOfW.of 35 rfl rfl)) ?_
          refine FStepsW.cons (FStepW.plain rfl fun a w hS hE => OpTo.pickG false 36 rfl rfl (hE 30 (by kernel_rfl)) rfl) ?_
          refine FStepsW.cons (FStepW.plain rfl fun a w hS hE => OpTo.assignG 4 rfl rfl (hE 36 (by kernel_rfl))) ?_
          exact FStepsW.nil
        intro f wx hS hF
        obtain ⟨h4, -⟩ := hF
        replace h4 : f 4 = .bool false := h4
        simp only [setAll, List.setIfInBounds_toArray, List.set_cons_zero, List.set_cons_succ, h4]
        show wpList _ _ _ [] _ _
        -- END
        have HT := Lib.hid ((((Touch.refl [] wA).alloc _).alloc _).trans hS)
        clear hS h4
        go_wp2_with fail
        go_ret
        exact ⟨ret_bool rfl, HT.out⟩
    · have d2 := Lib.hid (show ((x3 : Int) == (x4 : Int)) = false from beq_eq_false_iff_ne.2 (by omega))
      rw [decide_eq_false c2]
      clear c1 c2
      go_enter Try.func21, Try.ntmps21
      go_wp2_with fail
      -- GF rsame1
      refine wp_region_flowT (by kernel_rfl) 33 (lookW [(2, pu (isV (.pointer (some ⟨wA.heap.size, 0, none⟩)))), (3, pu (isV (.pointer (some ⟨wA.heap.size + 1, 0, none⟩)))), (5, pu (isV (.pointer (some ⟨wA.heap.size, 0, none⟩)))), (6, pu (isV (.float .f64 m))), (7, pu (isV (.int .u64 (x1 : Int)))), (8, pu (isV (.pointer (some ⟨wA.heap.size + 1, 0, none⟩)))), (9, pu (isV (.float .f64 m'))), (10, pu (isV (.int .u64 (x2 : Int)))), (11, pu (isV (.bool true))), (12, pu (isV (.bool true))), (13, pu (isV (.pointer (some ⟨wA.heap.size, 1, none⟩)))), (14, pu (isV (.float .f64 l))), (15, pu (isV (.int .u64 (x3 : Int)))), (16, pu (isV (.pointer (some ⟨wA.heap.size + 1, 1, none⟩)))), (17, pu (isV (.float .f64 l'))), (18, pu (isV (.int .u64 (x4 : Int)))), (19, pu (isV (.bool false))), (20, pu (isV (.bool false))), (21, pu (isV (.bool false))), (22, pu (isV (undef))), (23, pu (isV (undef))), (24, pu (isV (undef))), (25, pu (isV (undef))), (26, pu (isV (undef))), (27, pu (isV (undef))), (28, pu (isV (undef))), (29, pu (isV (.bool false))), (30, pu (isV (.bool false))), (31, pu (isV (undef))), (32, pu (isV (undef))), (33, pu (isV (undef))), (34, pu (isV (undef))), (35, pu (isV (undef))), (36, pu (isV (.bool false))), (4, pu (isV (.bool false)))]) [2, 3] [5, 6, 7, 8, 9, 10, 11, 12, 13, 14, 15, 16, 17, 18, 19, 20, 21, 22, 23, 24, 25, 26, 27, 28, 29, 30, 31, 32, 33, 34, 35, 36, 4] [4] (by kernel_rfl) (by kernel_rfl) (by kernel_rfl) (by kernel_rfl) ⟨rfl, rfl, trivial⟩ ?_ ?_
      · refine FStepsW.cons (FStepW.plain rfl fun a w hS hE => OpTo.pureG (v := .pointer (some ⟨wA.heap.size, 0, none⟩)) 5 rfl (by have h2 : a.eval (.tmp 2) = .pointer (some ⟨wA.heap.size, 0, none⟩) := hE 2 (by kernel_rfl); unfold execOp; simp only [h2]; go_simp) rfl) ?_
        refine FStepsW.cons (FStepW.plain rfl fun a w hS hE => OpTo.pureG (v := .float .f64 m) 6 rfl (by have h5 : a.eval (.tmp 5) = .pointer (some ⟨wA.heap.size, 0, none⟩) := hE 5 (by kernel_rfl); have hcell : w.cell? ⟨wA.heap.size, 0, none⟩ = some (.float .f64 m) := ((HB1.out.touch hS (by simp)).cell 0).trans rfl; unfold execOp; simp only [h5]; go_simp) rfl) ?_
        refine FStepsW.cons (FStepW.plain rfl fun a w hS hE => OpTo.callG #[.float .f64 m] 7 rfl rfl Try.func12 (by kernel_rfl) (by kernel_rfl) (argE1 (hE 6 (by kernel_rfl))) (cT (H1.out w)) (fun _ => rfl)) ?_
        refine FStepsW.cons (FStepW.plain rfl fun a w hS hE => OpTo.pureG (v := .pointer (some ⟨wA.heap.size + 1, 0, none⟩)) 8 rfl (by have h3 : a.eval (.tmp 3) = .pointer (some ⟨wA.heap.size + 1, 0, none⟩) := hE 3 (by kernel_rfl); unfold execOp; simp only [h3]; go_simp) rfl) ?_
        refine FStepsW.cons (FStepW.plain rfl fun a w hS hE => OpTo.pureG (v := .float .f64 m') 9 rfl (by have h8 : a.eval (.tmp 8) = .pointer (some ⟨wA.heap.size + 1, 0, none⟩) := hE 8 (by kernel_rfl); have hcell : w.cell? ⟨wA.heap.size + 1, 0, none⟩ = some (.float .f64 m') := ((HB2.out.touch hS (by simp)).cell 0).trans rfl; unfold execOp; simp only [h8]; go_simp) rfl) ?_
        refine FStepsW.cons (FStepW.plain rfl fun a w hS hE => OpTo.callG #[.float .f64 m'] 10 rfl rfl Try.func12 (by kernel_rfl) (by kernel_rfl) (argE1 (hE 9 (by kernel_rfl))) (cT (H2.out w)) (fun _ => rfl)) ?_
        refine FStepsW.cons (FStepW.plain rfl fun a w hS hE => OpTo.pureG (v := .bool true) 11 rfl (by have h7 : a.eval (.tmp 7) = .int .u64 (x1 : Int) := hE 7 (by kernel_rfl); have h10 : a.eval (.tmp 10) = .int .u64 (x2 : Int) := hE 10 (by kernel_rfl); have q := d1.out; unfold execOp; simp only [h10, h7]; go_simp) rfl) ?_
        refine FStepsW.cons (FStepW.plain rfl fun a w hS hE => OpTo.moveG 12 rfl rfl (hE 11 (by kernel_rfl))) ?_
        refine FStepsW.cons (FStepW.go 12 rfl rfl (fun _ _ h => h) fun a w hS hE => OpTo.pureG (v := .pointer (some ⟨wA.heap.size, 1, none⟩)) 13 rfl (by have h2 : a.eval (.tmp 2) = .pointer (some ⟨wA.heap.size, 0, none⟩) := hE 2 (by kernel_rfl); unfold execOp; simp only [h2]; go_simp) rfl) ?_
        refine FStepsW.cons (FStepW.go 12 rfl rfl (fun _ _ h => h) fun a w hS hE => OpTo.pureG (v := .float .f64 l) 14 rfl (by have h13 : a.eval (.tmp 13) = .pointer (some ⟨wA.heap.size, 1, none⟩) := hE 13 (by kernel_rfl); have hcell : w.cell? ⟨wA.heap.size, 1, none⟩ = some (.float .f64 l) := ((HB1.out.touch hS (by simp)).cell 1).trans rfl; unfold execOp; simp only [h13]; go_simp) rfl) ?_
        refine FStepsW.cons (FStepW.go 12 rfl rfl (fun _ _ h => h) fun a w hS hE => OpTo.callG #[.float .f64 l] 15 rfl rfl Try.func12 (by kernel_rfl) (by kernel_rfl) (argE1 (hE 14 (by kernel_rfl))) (cT (H3.out w)) (fun _ => rfl)) ?_
        refine FStepsW.cons (FStepW.go 12 rfl rfl (fun _ _ h => h) fun a w hS hE => OpTo.pureG (v := .pointer (some ⟨wA.heap.size + 1, 1, none⟩)) 16 rfl (by have h3 : a.eval (.tmp 3) = .pointer (some ⟨wA.heap.size + 1, 0, none⟩) := hE 3 (by kernel_rfl); unfold execOp; simp only [h3]; go_simp) rfl) ?_
        refine FStepsW.cons (FStepW.go 12 rfl rfl (fun _ _ h => h) fun a w hS hE => OpTo.pureG (v := .float .f64 l') 17 rfl (by have h16 : a.eval (.tmp 16) = .pointer (some ⟨wA.heap.size + 1, 1, none⟩) := hE 16 (by kernel_rfl); have hcell : w.cell? ⟨wA.heap.size + 1, 1, none⟩ = some (.float .f64 l') := ((HB2.out.touch hS (by simp)).cell 1).trans rfl; unfold execOp; simp only [h16]; go_simp) rfl) ?_
        refine FStepsW.cons (FStepW.go 12 rfl rfl (fun _ _ h => h) fun a w hS hE => OpTo.callG #[.float .f64 l'] 18 rfl rfl Try.func12 (by kernel_rfl) (by kernel_rfl) (argE1 (hE 17 (by kernel_rfl))) (cT (H4.out w)) (fun _ => rfl)) ?_
        refine FStepsW.cons (FStepW.go 12 rfl rfl (fun _ _ h => h) fun a w hS hE => OpTo.pureG (v := .bool false) 19 rfl (by have h15 : a.eval (.tmp 15) = .int .u64 (x3 : Int) := hE 15 (by kernel_rfl); have h18 : a.eval (.tmp 18) = .int .u64 (x4 : Int) := hE 18 (by kernel_rfl); have q := d2.out; unfold execOp; simp only [h15, h18]; go_simp) rfl) ?_
        refine FStepsW.cons (FStepW.plain rfl fun a w hS hE => OpTo.pickG true 20 rfl rfl (hE 12 (by kernel_rfl)) (hE 19 (by kernel_rfl))) ?_
        refine FStepsW.cons (FStepW.plain rfl fun a w hS hE => OpTo.moveG 21 rfl rfl (hE 20 (by kernel_rfl))) ?_
        refine FStepsW.cons (FStepW.no 21 rfl rfl (fun _ _ h => h) (fun _ => dOfW.of 22 rfl rfl)) ?_
        refine FStepsW.cons (FStepW.no 21 rfl rfl (fun _ _ h => h) (fun _ => dOfW.of 23 rfl rfl)) ?_
        refine FStepsW.cons (FStepW.no 21 rfl rfl (fun _ _ h => h) (fun _ => dOfW.of 24 rfl rfl)) ?_
        refine FStepsW.cons (FStepW.no 21 rfl rfl (fun _ _ h => h) (fun _ => dOfW.of 25 rfl rfl)) ?_
        refine FStepsW.cons (FStepW.no 21 rfl rfl (fun _ _ h => h) (fun _ => dOfW.of 26 rfl rfl)) ?_
        refine FStepsW.cons (FStepW.no 21 rfl rfl (fun _ _ h => h) (fun _ => dOfW.of 27 rfl rfl)) ?_
        refine FStepsW.cons (FStepW.no 21 rfl rfl (fun _ _ h => h) (fun _ => dOfW.of 28 rfl rfl)) ?_
        refine FStepsW.cons (FStepW.plain rfl fun a w hS hE => OpTo.pickG false 29 rfl rfl (hE 21 (by kernel_rfl)) rfl) ?_
        refine FStepsW.cons (FStepW.plain rfl fun a w hS hE => OpTo.moveG 30 rfl rfl (hE 29 (by kernel_rfl))) ?_
        refine FStepsW.cons (FStepW.no 30 rfl rfl (fun _ _ h => h) (fun _ => dOfW.of 31 rfl rfl)) ?_
        refine FStepsW.cons (FStepW.no 30 rfl rfl (fun _ _ h => h) (fun _ => dOfW.of 32 rfl rfl)) ?_
        refine FStepsW.cons (FStepW.no 30 rfl rfl (fun _ _ h => h) (fun _ => dOfW.of 33 rfl rfl)) ?_
        refine FStepsW.cons (FStepW.no 30 rfl rfl (fun _ _ h => h) (fun _ => dOfW.of 34 rfl rfl)) ?_
        refine FStepsW.cons (FStepW.no 30 rfl rfl (fun _ _ h => h) (fun _ => dOfW.of 35 rfl rfl)) ?_
        refine FStepsW.cons (FStepW.plain rfl fun a w hS hE => OpTo.pickG false 36 rfl rfl (hE 30 (by kernel_rfl)) rfl) ?_
        refine FStepsW.cons (FStepW.plain rfl fun a w hS hE => OpTo.assignG 4 rfl rfl (hE 36 (by kernel_rfl))) ?_
        exact FStepsW.nil
      intro f wx hS hF
      obtain ⟨h4, -⟩ := hF
      replace h4 : f 4 = .bool false := h4
      simp only [setAll, List.setIfInBounds_toArray, List.set_cons_zero, List.set_cons_succ, h4]
      show wpList _ _ _ [] _ _
      -- END
      have HT := Lib.hid ((((Touch.refl [] wA).alloc _).alloc _).trans hS)
      clear hS h4
      go_wp2_with fail
      go_ret
      exact ⟨ret_bool rfl, HT.out⟩
  · have d1 := Lib.hid (show ((x1 : Int) == (x2 : Int)) = false from beq_eq_false_iff_ne.2 (by omega))
    rw [decide_eq_false c1]
    clear c1
    go_enter Try.func21, Try.ntmps21
    go_wp2_with fail
    -- GF rsame0
    refine wp_region_flowT (by kernel_rfl) 33 (lookW [(2, pu (isV (.pointer (some ⟨wA.heap.size, 0, none⟩)))), (3, pu (isV (.pointer (some ⟨wA.heap.size + 1, 0, none⟩)))), (5, pu (isV (.pointer (some ⟨wA.heap.size, 0, none⟩)))), (6, pu (isV (.float .f64 m))), (7, pu (isV (.int .u64 (x1 : Int)))), (8, pu (isV (.pointer (some ⟨wA.heap.size + 1, 0, none⟩)))), (9, pu (isV (.float .f64 m'))), (10, pu (isV (.int .u64 (x2 : Int)))), (11, pu (isV (.bool false))), (12, pu (isV (.bool false))), (13, pu (isV (undef))), (14, pu (isV (undef))), (15, pu (isV (undef))), (16, pu (isV (undef))), (17, pu (isV (undef))), (18, pu (isV (undef))), (19, pu (isV (undef))), (20, pu (isV (.bool false))), (21, pu (isV (.bool false))), (22, pu (isV (undef))), (23, pu (isV (undef))), (24, pu (isV (undef))), (25, pu (isV (undef))), (26, pu (isV (undef))), (27, pu (isV (undef))), (28, pu (isV (undef))), (29, pu (isV (.bool false))), (30, pu (isV (.bool false))), (31, pu (isV (undef))), (32, pu (isV (undef))), (33, pu (isV (undef))), (34, pu (isV (undef))), (35, pu (isV (undef))), (36, pu (isV (.bool false))), (4, pu (isV (.bool false)))]) [2, 3] [5, 6, 7, 8, 9, 10, 11, 12, 13, 14, 15, 16, 17, 18, 19, 20, 21, 22, 23, 24, 25, 26, 27, 28, 29, 30, 31, 32, 33, 34, 35, 36, 4] [4] (by kernel_rfl) (by kernel_rfl) (by kernel_rfl) (by kernel_rfl) ⟨rfl, rfl, trivial⟩ ?_ ?_
    · refine FStepsW.cons (FStepW.plain rfl fun a w hS hE => OpTo.pureG (v := .pointer (some ⟨wA.heap.size, 0, none⟩)) 5 rfl (by have h2 : a.eval (.tmp 2) = .pointer (some ⟨wA.heap.size, 0, none⟩) := hE 2 (by kernel_rfl); unfold execOp; simp only [h2]; go_simp) rfl) ?_
      refine FStepsW.cons (FStepW.plain rfl fun a w hS hE => OpTo.pureG (v := .float .f64 m) 6 rfl (by have h5 : a.eval (.tmp 5) = .pointer (some ⟨wA.heap.size, 0, none⟩) := hE 5 (by kernel_rfl); have hcell : w.cell? ⟨wA.heap.size, 0, none⟩ = some (.float .f64 m) := ((HB1.out.touch hS (by simp)).cell 0).trans rfl; unfold execOp; simp only [h5]; go_simp) rfl) ?_
      refine FStepsW.cons (FStepW.plain rfl fun a w hS hE => OpTo.callG #[.float .f64 m] 7 rfl rfl Try.func12 (by kernel_rfl) (by kernel_rfl) (argE1 (hE 6 (by kernel_rfl))) (cT (H1.out w)) (fun _ => rfl)) ?_
      refine FStepsW.cons (FStepW.plain rfl fun a w hS hE => OpTo.pureG (v := .pointer (some ⟨wA.heap.size + 1, 0, none⟩)) 8 rfl (by have h3 : a.eval (.tmp 3) = .pointer (some ⟨wA.heap.size + 1, 0, none⟩) := hE 3 (by kernel_rfl); unfold execOp; simp only [h3]; go_simp) rfl) ?_
      refine FStepsW.cons (FStepW.plain rfl fun a w hS hE => OpTo.pureG (v := .float .f64 m') 9 rfl (by have h8 : a.eval (.tmp 8) = .pointer (some ⟨wA.heap.size + 1, 0, none⟩) := hE 8 (by kernel_rfl); have hcell : w.cell? ⟨wA.heap.size + 1, 0, none⟩ = some (.float .f64 m') := ((HB2.out.touch hS (by simp)).cell 0).trans rfl; unfold execOp; simp only [h8]; go_simp) rfl) ?_
      refine FStepsW.cons (FStepW.plain rfl fun a w hS hE => OpTo.callG #[.float .f64 m'] 10 rfl rfl Try.func12 (by kernel_rfl) (by kernel_rfl) (argE1 (hE 9 (by kernel_rfl))) (cT (H2.out w)) (fun _ => rfl)) ?_
      refine FStepsW.cons (FStepW.plain rfl fun a w hS hE => OpTo.pureG (v := .bool false) 11 rfl (by have h7 : a.eval (.tmp 7) = .int .u64 (x1 : Int) := hE 7 (by kernel_rfl); have h10 : a.eval (.tmp 10) = .int .u64 (x2 : Int) := hE 10 (by kernel_rfl); have q := d1.out; unfold execOp; simp only [h10, h7]; go_simp) rfl) ?_
      refine FStepsW.cons (FStepW.plain rfl fun a w hS hE => OpTo.moveG 12 rfl rfl (hE 11 (by kernel_rfl))) ?_
      refine FStepsW.cons (FStepW.no 12 rfl rfl (fun _ _ h => h) (fun _ => dOfW.of 13 rfl rfl)) ?_
      refine FStepsW.cons (FStepW.no 12 rfl rfl (fun _ _ h => h) (fun _ => dOfW.of 14 rfl rfl)) ?_
      refine FStepsW.cons (FStepW.no 12 rfl rfl (fun _ _ h => h) (fun _ => dOfW.of 15 rfl rfl)) ?_
      refine FStepsW.cons (FStepW.no 12 rfl rfl (fun _ _ h => h) (fun _ => dOfW.of 16 rfl rfl)) ?_
      refine FStepsW.cons (FStepW.no 12 rfl rfl (fun _ _ h => h) (fun _ => dOfW.of 17 rfl rfl)) ?_
      refine FStepsW.cons (FStepW.no 12 rfl rfl (fun _ _ h => h) (fun _ => dOfW.of 18 rfl rfl)) ?_
      refine FStepsW.cons (FStepW.no 12 rfl rfl (fun _ _ h => h) (fun _ => dOfW.of 19 rfl rfl)) ?_
      refine FStepsW.cons (FStepW.plain rfl fun a w hS hE => OpTo.pickG false 20 rfl rfl (hE 12 (by kernel_rfl)) rfl) ?_
      refine FStepsW.cons (FStepW.plain rfl fun a w hS hE => OpTo.moveG 21 rfl rfl (hE 20 (by kernel_rfl))) ?_
      refine FStepsW.cons (FStepW.no 21 rfl rfl (fun _ _ h => h) (fun _ => dOfW.of 22 rfl rfl)) ?_
      refine FStepsW.cons (FStepW.no 21 rfl rfl (fun _ _ h => h) (fun _ => dOfW.of 23 rfl rfl)) ?_
      refine FStepsW.cons (FStepW.no 21 rfl rfl (fun _ _ h => h) (fun _ => dOfW.of 24 rfl rfl)) ?_
      refine FStepsW.cons (FStepW.no 21 rfl rfl (fun _ _ h => h) (fun _ => dOfW.of 25 rfl rfl)) ?_
      refine FStepsW.cons (FStepW.no 21 rfl rfl (fun _ _ h => h) (fun _ => dOfW.of 26 rfl rfl)) ?_
      refine FStepsW.cons (FStepW.no 21 rfl rfl (fun _ _ h => h) (fun _ => dOfW.of 27 rfl rfl)) ?_
      refine FStepsW.cons (FStepW.no 21 rfl rfl (fun _ _ h => h) (fun _ => dOfW.of 28 rfl rfl)) ?_
      refine FStepsW.cons (FStepW.plain rfl fun a w hS hE => OpTo.pickG false 29 rfl rfl (hE 21 (by kernel_rfl)) rfl) ?_
      refine FStepsW.cons (FStepW.plain rfl fun a w hS hE => OpTo.moveG 30 rfl rfl (hE 29 (by kernel_rfl))) ?_
      refine FStepsW.cons (FStepW.no 30 rfl rfl (fun _ _ h => h) (fun _ => dOfW.of 31 rfl rfl)) ?_
      refine FStepsW.cons (FStepW.no 30 rfl rfl (fun _ _ h => h) (fun _ => dOfW.of 32 rfl rfl)) ?_
      refine FStepsW.cons (FStepW.no 30 rfl rfl (fun _ _ h => h) (fun _ => dOfW.of 33 rfl rfl)) ?_
      refine FStepsW.cons (FStepW.no 30 rfl rfl (fun _ _ h => h) (fun _ => dOfW.of 34 rfl rfl)) ?_
      refine FStepsW.cons (FStepW.no 30 rfl rfl (fun _ _ h => h) (fun _ => dOfW.of 35 rfl rfl)) ?_
      refine FStepsW.cons (FStepW.plain rfl fun a w hS hE => OpTo.pickG false 36 rfl rfl (hE 30 (by kernel_rfl)) rfl) ?_
      refine FStepsW.cons (FStepW.plain rfl fun a w hS hE => OpTo.assignG 4 rfl rfl (hE 36 (by kernel_rfl))) ?_
      exact FStepsW.nil
    intro f wx hS hF
    obtain ⟨h4, -⟩ := hF
    replace h4 : f 4 = .bool false := h4
    simp only [setAll, List.setIfInBounds_toArray, List.set_cons_zero, List.set_cons_succ, h4]
    show wpList _ _ _ [] _ _
    -- END
    have HT := Lib.hid ((((Touch.refl [] wA).alloc _).alloc _).trans hS)
    clear hS h4
    go_wp2_with fail
    go_ret
    exact ⟨ret_bool rfl, HT.out⟩
theorem ref_any (m l h : Nat) (n : Int) (w : World) : Calls Try.prog 20 #[gV m l h n] w fun e w' => e = .returned (gV m l h n) ∧ Touch [] w w' := by
  go_enter Try.func20, Try.ntmps20
  go_wp2_with fail
  exact bodyPost_ret (v := _) (by simp [results, Try.results20, go_sem]) rfl ⟨rfl, ((Touch.refl [] w).alloc _).alloc _⟩
end Go.Proofs.Ytbpgbjhjnemaoaa
