/- GaugeAdds: the walk. -/
import Derived.Test.YtbpgbjhjnemaoaaGgTellsWalk
namespace Go.Proofs.Ytbpgbjhjnemaoaa
open Go Go.RowKit
theorem addV_shape {m l h : Nat} {n : Int} {x f : Nat} (hm : m < 18446744073709551616) (hl : l < 18446744073709551616) (hh : h < 18446744073709551616) (hx : x < 18446744073709551616) :
    ∃ (m' l' h' : Nat) (n' e : Int), addV m l h n x f = .tuple #[gV m' l' h' n', .int .i64 e] ∧ m' < 18446744073709551616 ∧ l' < 18446744073709551616 ∧ h' < 18446744073709551616 := by
  unfold addV
  split
  · split
    · exact ⟨_, _, _, _, _, rfl, hx, hx, hx⟩
    · refine ⟨_, _, _, _, _, rfl, meanF_lt hm hx, ?_, ?_⟩
      · unfold lowF; split
        · exact hx
        · exact hl
      · unfold highF; split
        · exact hx
        · exact hh
  · exact ⟨_, _, _, _, _, rfl, by decide, by decide, by decide⟩
theorem four_ref {w : World} {g : Nat} {m l h : Nat} {n : Int} {t : TypeId} (hb : Blk w g t (gC m l h n)) :
    w.cell? ⟨g, 0, none⟩ = some (.float .f64 m) ∧ w.cell? ⟨g, 1, none⟩ = some (.float .f64 l) ∧ w.cell? ⟨g, 2, none⟩ = some (.float .f64 h) ∧ w.cell? ⟨g, 3, none⟩ = some (.int .u64 n) :=
  ⟨hb.cell 0, hb.cell 1, hb.cell 2, hb.cell 3⟩
set_option maxRecDepth 100000 in
set_option maxHeartbeats 4000000 in
theorem adds_walk (m l h x f : Nat) (n : Int) (hm : m < 18446744073709551616) (hl : l < 18446744073709551616) (hh : h < 18446744073709551616) (n0 : 0 ≤ n) (n1 : n < 18446744073709551616) (hx : x < 18446744073709551616) (hf : f < 18446744073709551616) (wA : World) :
    Calls Try.prog 4 #[.agg #[.float .f64 m, .float .f64 l, .float .f64 h, .int .u64 n], .float .f64 x, .float .f64 f] wA fun e w' => e = .returned (.bool true) ∧ Touch [] wA w' := by
  obtain ⟨m', l', h', n', e', hv, hm', hl', hh'⟩ := addV_shape (n := n) (f := f) hm hl hh hx
  have H1 := Lib.hid (fun W : World => hv ▸ add_any m l h x f n hl hh n0 n1 hx hf W)
  have H2 := Lib.hid (fun W : World => hv ▸ radd2_any m l h x f n hl hh n0 n1 hx hf W)
  have H3 := Lib.hid (fun W : World => ref_any m l h n W)
  have H4 := Lib.hid (fun W : World => ref_any m' l' h' n' W)
  have H5 := Lib.hid (fun W : World => rsame_any m' l' h' m' l' h' n' n' hm' hl' hh' hm' hl' hh' W)
  have H6 := Lib.hid (fun W : World => same_any m l h m' l' h' n n' hm hl hh hm' hl' hh' W)
  have H7 := Lib.hid (fun W : World => rsame_any m l h m' l' h' n n' hm hl hh hm' hl' hh' W)
  have H8 := Lib.hid (fun W : World => fixed_any W)
  have hself : alike m' l' h' n' m' l' h' n' = true := by unfold alike; simp
  rw [hself] at H5
  generalize alike m l h n m' l' h' n' = ab at *
  clear hself hv hm hl hh n0 n1 hx hf hm' hl' hh'
  go_enter Try.func4, Try.ntmps4
  go_wp2_with fail
  refine (H1.out _).mono ?_
  rintro e w1 ⟨rfl, ht⟩
  obtain ⟨g3, hg3⟩ : ∃ g, g = wA.heap.size := ⟨_, rfl⟩
  rw [← hg3]
  have hb3 : Blk w1 g3 31 (gC m l h n) := by rw [hg3]; exact (Blk.new wA 31 (gC m l h n)).touch ht (by simp)
  have HT1 := Lib.hid (((Touch.refl [] wA).alloc _).trans ht)
  have HB3 := Lib.hid hb3
  obtain ⟨a0, a1, a2, a3⟩ := four_ref (hb3.alloc (.cells (gC m' l' h' n') 31))
  clear ht hg3 hb3 H1
  go_wp2_with fail
  clear a0 a1 a2 a3
  obtain ⟨w2, hw2⟩ : ∃ w2, w2 = w1.alloc (.cells (gC m' l' h' n') 31) := ⟨_, rfl⟩
  have hb7 := Blk.new w1 31 (gC m' l' h' n')
  have hb3 := HB3.out.alloc (.cells (gC m' l' h' n') 31)
  have ht2 := HT1.out.alloc (.cells (gC m' l' h' n') 31)
  rw [← hw2] at hb7 hb3 ht2 ⊢
  obtain ⟨g7, hg7⟩ : ∃ g, g = w1.heap.size := ⟨_, rfl⟩
  rw [← hg7] at hb7 ⊢
  clear hw2 hg7 HB3 HT1
  refine (H3.out _).mono ?_
  rintro e w3 ⟨rfl, ht3⟩
  have HB7 := Lib.hid (hb7.touch ht3 (by simp))
  have HB3 := Lib.hid (hb3.touch ht3 (by simp))
  have HT2 := Lib.hid (ht2.trans ht3)
  clear hb7 hb3 ht2 ht3
  go_wp2_with fail
  refine (H2.out _).mono ?_
  rintro e w4 ⟨rfl, ht4⟩
  have HB7' := Lib.hid ((HB7.out.touch ht4 (by simp)).alloc (.cells (gC m' l' h' n') 35))
  have HB3' := Lib.hid ((HB3.out.touch ht4 (by simp)).alloc (.cells (gC m' l' h' n') 35))
  have HT3 := Lib.hid ((HT2.out.trans ht4).alloc (.cells (gC m' l' h' n') 35))
  have HB9 := Lib.hid (Blk.new w4 35 (gC m' l' h' n'))
  clear ht4 HB7 HB3 HT2
  go_upto_region 3 with fail
  obtain ⟨w5, hw5⟩ : ∃ w5, w5 = w4.alloc (.cells (gC m' l' h' n') 35) := ⟨_, rfl⟩
  rw [← hw5] at HB7' HB3' HT3 HB9 ⊢
  obtain ⟨g9, hg9⟩ : ∃ g, g = w4.heap.size := ⟨_, rfl⟩
  rw [← hg9] at HB9 ⊢
  clear hw5 hg9
  -- GF adds3
  refine wp_region_flowT (by kernel_rfl) 23 (lookW [(7, pu (isV (.pointer (some ⟨g7, 0, none⟩)))), (9, pu (isV (.pointer (some ⟨g9, 0, none⟩)))), (3, pu (isV (.pointer (some ⟨g3, 0, none⟩)))), (8, pu (isV (.int .i64 e'))), (10, pu (isV (.int .i64 e'))), (26, pu (isV (.agg #[.float .f64 m', .float .f64 l', .float .f64 h', .int .u64 n']))), (27, pu (isV (.agg #[.float .f64 m', .float .f64 l', .float .f64 h', .int .u64 n']))), (28, pu (isV (.agg #[.float .f64 m', .float .f64 l', .float .f64 h', .int .u64 n']))), (29, pu (isV (.bool true))), (30, pu (isV (.bool true))), (31, pu (isV (.int .i64 e'))), (32, pu (isV (.int .i64 e'))), (33, pu (isV (.bool true))), (34, pu (isV (.bool true))), (35, pu (isV (.bool true))), (36, pu (isV (.agg #[.float .f64 m, .float .f64 l, .float .f64 h, .int .u64 n]))), (37, pu (isV (.agg #[.float .f64 m', .float .f64 l', .float .f64 h', .int .u64 n']))), (38, pu (isV (.bool ab))), (39, pu (isV (.agg #[.float .f64 m, .float .f64 l, .float .f64 h, .int .u64 n]))), (40, pu (isV (.agg #[.float .f64 m, .float .f64 l, .float .f64 h, .int .u64 n]))), (41, pu (isV (.agg #[.float .f64 m', .float .f64 l', .float .f64 h', .int .u64 n']))), (42, pu (isV (.bool ab))), (43, pu (isV (.bool true))), (44, pu (isV (.bool true))), (45, pu (isV (.bool true))), (46, pu (isV (.bool true))), (47, pu (isV (.bool true))), (6, pu (isV (.bool true)))]) [7, 9, 3, 8, 10] [26, 27, 28, 29, 30, 31, 32, 33, 34, 35, 36, 37, 38, 39, 40, 41, 42, 43, 44, 45, 46, 47, 6] [6] (by kernel_rfl) (by kernel_rfl) (by kernel_rfl) (by kernel_rfl) ⟨rfl, rfl, rfl, rfl, rfl, trivial⟩ ?_ ?_
  · refine FStepsW.cons (FStepW.plain rfl fun ac w hS hE => OpTo.rowG 26 31 _ rfl rfl g7 (hE 7 (by kernel_rfl)) 31 #[.float .f64 m', .float .f64 l', .float .f64 h', .int .u64 n'] _ (HB7'.out.touch hS (by simp)) Try.underlying31 rfl (by kernel_rfl) rfl) ?_
    refine FStepsW.cons (FStepW.plain rfl fun ac w hS hE => OpTo.callG #[.agg #[.float .f64 m', .float .f64 l', .float .f64 h', .int .u64 n']] 27 rfl rfl Try.func20 (by kernel_rfl) (by kernel_rfl) (argE1 (hE 26 (by kernel_rfl))) (H4.out w) (fun _ => rfl)) ?_
    refine FStepsW.cons (FStepW.plain rfl fun ac w hS hE => OpTo.rowG 28 35 _ rfl rfl g9 (hE 9 (by kernel_rfl)) 35 #[.float .f64 m', .float .f64 l', .float .f64 h', .int .u64 n'] _ (HB9.out.touch hS (by simp)) Try.underlying35 rfl (by kernel_rfl) rfl) ?_
    refine FStepsW.cons (FStepW.plain rfl fun ac w hS hE => OpTo.callG #[.agg #[.float .f64 m', .float .f64 l', .float .f64 h', .int .u64 n'], .agg #[.float .f64 m', .float .f64 l', .float .f64 h', .int .u64 n']] 29 rfl rfl Try.func21 (by kernel_rfl) (by kernel_rfl) (argE2 (hE 27 (by kernel_rfl)) (hE 28 (by kernel_rfl))) (H5.out w) (fun _ => rfl)) ?_
    refine FStepsW.cons (FStepW.plain rfl fun ac w hS hE => OpTo.moveG 30 rfl rfl (hE 29 (by kernel_rfl))) ?_
    refine FStepsW.cons (FStepW.go 30 rfl rfl (fun _ _ h => h) fun ac w hS hE => OpTo.moveG 31 rfl rfl (hE 8 (by kernel_rfl))) ?_
    refine FStepsW.cons (FStepW.go 30 rfl rfl (fun _ _ h => h) fun ac w hS hE => OpTo.moveG 32 rfl rfl (hE 10 (by kernel_rfl))) ?_
    refine FStepsW.cons (FStepW.go 30 rfl rfl (fun _ _ h => h) fun ac w hS hE => OpTo.pureG (v := .bool true) 33 rfl (by have h31 : ac.eval (.tmp 31) = .int .i64 e' := hE 31 (by kernel_rfl); have h32 : ac.eval (.tmp 32) = .int .i64 e' := hE 32 (by kernel_rfl); unfold execOp; simp only [h31, h32]; go_simp) rfl) ?_
    refine FStepsW.cons (FStepW.plain rfl fun ac w hS hE => OpTo.pickG true 34 rfl rfl (hE 30 (by kernel_rfl)) (hE 33 (by kernel_rfl))) ?_
    refine FStepsW.cons (FStepW.plain rfl fun ac w hS hE => OpTo.moveG 35 rfl rfl (hE 34 (by kernel_rfl))) ?_
    refine FStepsW.cons (FStepW.go 35 rfl rfl (fun _ _ h => h) fun ac w hS hE => OpTo.rowG 36 31 _ rfl rfl g3 (hE 3 (by kernel_rfl)) 31 #[.float .f64 m, .float .f64 l, .float .f64 h, .int .u64 n] _ (HB3'.out.touch hS (by simp)) Try.underlying31 rfl (by kernel_rfl) rfl) ?_
    refine FStepsW.cons (FStepW.go 35 rfl rfl (fun _ _ h => h) fun ac w hS hE => OpTo.rowG 37 31 _ rfl rfl g7 (hE 7 (by kernel_rfl)) 31 #[.float .f64 m', .float .f64 l', .float .f64 h', .int .u64 n'] _ (HB7'.out.touch hS (by simp)) Try.underlying31 rfl (by kernel_rfl) rfl) ?_
    refine FStepsW.cons (FStepW.go 35 rfl rfl (fun _ _ h => h) fun ac w hS hE => OpTo.callG #[.agg #[.float .f64 m, .float .f64 l, .float .f64 h, .int .u64 n], .agg #[.float .f64 m', .float .f64 l', .float .f64 h', .int .u64 n']] 38 rfl rfl Try.func22 (by kernel_rfl) (by kernel_rfl) (argE2 (hE 36 (by kernel_rfl)) (hE 37 (by kernel_rfl))) (H6.out w) (fun _ => rfl)) ?_
    refine FStepsW.cons (FStepW.go 35 rfl rfl (fun _ _ h => h) fun ac w hS hE => OpTo.rowG 39 31 _ rfl rfl g3 (hE 3 (by kernel_rfl)) 31 #[.float .f64 m, .float .f64 l, .float .f64 h, .int .u64 n] _ (HB3'.out.touch hS (by simp)) Try.underlying31 rfl (by kernel_rfl) rfl) ?_
    refine FStepsW.cons (FStepW.go 35 rfl rfl (fun _ _ h => h) fun ac w hS hE => OpTo.callG #[.agg #[.float .f64 m, .float .f64 l, .float .f64 h, .int .u64 n]] 40 rfl rfl Try.func20 (by kernel_rfl) (by kernel_rfl) (argE1 (hE 39 (by kernel_rfl))) (H3.out w) (fun _ => rfl)) ?_
    refine FStepsW.cons (FStepW.go 35 rfl rfl (fun _ _ h => h) fun ac w hS hE => OpTo.rowG 41 35 _ rfl rfl g9 (hE 9 (by kernel_rfl)) 35 #[.float .f64 m', .float .f64 l', .float .f64 h', .int .u64 n'] _ (HB9.out.touch hS (by simp)) Try.underlying35 rfl (by kernel_rfl) rfl) ?_
    refine FStepsW.cons (FStepW.go 35 rfl rfl (fun _ _ h => h) fun ac w hS hE => OpTo.callG #[.agg #[.float .f64 m, .float .f64 l, .float .f64 h, .int .u64 n], .agg #[.float .f64 m', .float .f64 l', .float .f64 h', .int .u64 n']] 42 rfl rfl Try.func21 (by kernel_rfl) (by kernel_rfl) (argE2 (hE 40 (by kernel_rfl)) (hE 41 (by kernel_rfl))) (H7.out w) (fun _ => rfl)) ?_
    refine FStepsW.cons (FStepW.go 35 rfl rfl (fun _ _ h => h) fun ac w hS hE => OpTo.pureG (v := .bool true) 43 rfl (by have h38 : ac.eval (.tmp 38) = .bool ab := hE 38 (by kernel_rfl); have h42 : ac.eval (.tmp 42) = .bool ab := hE 42 (by kernel_rfl); unfold execOp; simp only [h38, h42]; go_simp) rfl) ?_
    refine FStepsW.cons (FStepW.plain rfl fun ac w hS hE => OpTo.pickG true 44 rfl rfl (hE 35 (by kernel_rfl)) (hE 43 (by kernel_rfl))) ?_
    refine FStepsW.cons (FStepW.plain rfl fun ac w hS hE => OpTo.moveG 45 rfl rfl (hE 44 (by kernel_rfl))) ?_
    refine FStepsW.cons (FStepW.go 45 rfl rfl (fun _ _ h => h) fun ac w hS hE => OpTo.callG #[] 46 rfl rfl Try.func17 (by kernel_rfl) (by kernel_rfl) argE0 (H8.out w) (fun _ => rfl)) ?_
    refine FStepsW.cons (FStepW.plain rfl fun ac w hS hE => OpTo.pickG true 47 rfl rfl (hE 45 (by kernel_rfl)) (hE 46 (by kernel_rfl))) ?_
    refine FStepsW.cons (FStepW.plain rfl fun ac w hS hE => OpTo.assignG 6 rfl rfl (hE 47 (by kernel_rfl))) ?_
    exact FStepsW.nil
  intro f wx hS hF
  obtain ⟨h6, -⟩ := hF
  replace h6 : f 6 = .bool true := h6
  simp only [setAll, List.setIfInBounds_toArray, List.set_cons_zero, List.set_cons_succ, h6]
  show wpList _ _ _ [] _ _
  -- END
  have HT := Lib.hid (HT3.out.trans hS)
  clear hS
  go_wp2_with fail
  go_ret
  exact ⟨rfl, HT.out⟩
end Go.Proofs.Ytbpgbjhjnemaoaa
