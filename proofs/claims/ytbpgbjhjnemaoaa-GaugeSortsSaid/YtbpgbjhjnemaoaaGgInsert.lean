/- Insertion: the walk. -/
import Derived.Test.YtbpgbjhjnemaoaaGgRotate
namespace Go.Proofs.Ytbpgbjhjnemaoaa
open Go Go.RowKit
abbrev cfV : Value := .func (.func 37) #[] #[]
set_option maxRecDepth 100000 in
set_option maxHeartbeats 2000000 in
theorem insert_any (g off n c : Nat) (d : Nat → Nat) (a b : Nat) (hab : a ≤ b) (hb : b ≤ n) (hn : n < 1000000) (wA : World) (h : Arr wA g off n d) :
    Calls Try.prog 42 #[.slice (some ⟨g, off, none⟩) n c, .int .i64 (a : Int), .int .i64 (b : Int), cfV] wA fun e w' => e = .returned (.tuple #[]) ∧ ∃ d', Arr w' g off n d' ∧ In d d' a b n ∧ Srt d' a b ∧ Touch [g] wA w' := by
  have HA := Lib.hid h
  have HCm := Lib.hid (fun (a b : Nat) (ha : a < 18446744073709551616) (hb : b < 18446744073709551616) (W : World) => cmp_any a b ha hb W)
  have m1 : IntKind.i64.wrap ((a : Int) + 1) = (a : Int) + 1 := IntWalk.i64_in _ (by omega)
  clear h
  go_enter Try.func42, Try.ntmps42
  go_wp2_with fail
  clear m1
  go_loopw [8] (fun vi wr => ∃ (i : Nat) (e : Nat → Nat), a < i ∧ (i ≤ b ∨ i = a + 1) ∧ vi = .int .i64 (i : Int) ∧ Arr wr g off n e ∧ In d e a b n ∧ Srt e a i ∧ Touch [g] wA wr) (fun vi _ => b - (intOf vi).toNat)
  case atStart => exact ⟨a + 1, d, by omega, .inr rfl, by go_num, HA.out, In.refl _ _ _ _, srt_tiny _ (by omega), Touch.refl _ _⟩
  case round =>
    obtain ⟨i, e, hai, hib, rfl, ha, hin, hs, ht⟩ := hrel
    clear HA
    have HA := Lib.hid ha
    have HI := Lib.hid hin
    have HS := Lib.hid hs
    have HT := Lib.hid ht
    clear ha hin hs ht
    by_cases hlt : i < b
    · obtain ⟨w0, hw0⟩ : ∃ w0 : World, w0 = wr := ⟨_, rfl⟩
      rw [← hw0] at HA HT ⊢
      clear hw0 wr
      go_wp2_with fail
      go_loopw [9] (fun vj wr => ∃ (j : Nat) (e : Nat → Nat), a ≤ j ∧ j ≤ i ∧ vj = .int .i64 (j : Int) ∧ Arr wr g off n e ∧ In d e a b n ∧ Ins e a i j ∧ Touch [g] wA wr) (fun vj _ => (intOf vj).toNat)
      case atStart => exact ⟨i, e, by omega, by omega, rfl, HA.out, HI.out, Ins.start HS.out, HT.out⟩
      case round =>
        obtain ⟨j, e2, haj, hji, rfl, ha, hin, hs, ht⟩ := hrel
        clear HA HI HS HT
        by_cases hj : a < j
        · have c1 := ha.cell (show j < n by omega)
          have c2 := ha.cell (show j - 1 < n by omega)
          have b1 := ha.bd (show j < n by omega)
          have b2 := ha.bd (show j - 1 < n by omega)
          have f1 := ha.free (off + j)
          have f2 := ha.free (off + (j - 1))
          have HN := ha.swp (show j < n by omega) (show j - 1 < n by omega)
          have hstep := hs.step hj hji
          have hdone := hs.done haj hji
          have hin2 := hin.trans (In.swp e2 (a := a) (b := b) (n := n) (i := j) (j := j - 1) (by omega) (by omega) hb)
          have HN5 := fun (W : World) (h : Touch [] wr W) => (ha.touch h).swp (show j < n by omega) (show j - 1 < n by omega)
          have HD6 := fun (W : World) (h : Touch [] wr W) => (ha.touch h).set1 (off + j) (j - 1) (by omega) (show j - 1 < n by omega) (.float .f64 (e2 (j - 1)))
          have d1 := ha.set1 (off + j) (j - 1) (by omega) (show j - 1 < n by omega) (.float .f64 (e2 (j - 1)))
          obtain ⟨p, hp⟩ : ∃ p, p = j - 1 := ⟨_, rfl⟩
          rw [← hp] at c2 b2 f2 HN hstep hdone hin2 d1 HN5 HD6
          obtain ⟨u, hu⟩ : ∃ u, u = e2 j := ⟨_, rfl⟩
          obtain ⟨v, hv⟩ : ∃ v, v = e2 p := ⟨_, rfl⟩
          rw [← hu] at c1 b1 HN hstep hdone HN5
          rw [← hv] at c2 b2 HN hstep hdone d1 HN5 HD6
          have HC1 := Lib.hid (fun (W : World) (h : Touch [] wr W) => (h.cell (p := ⟨g, off + j, none⟩) ha.lt (by simp)).trans c1)
          have HC2 := Lib.hid (fun (W : World) (h : Touch [] wr W) => (h.cell (p := ⟨g, off + p, none⟩) ha.lt (by simp)).trans c2)
          have HB := Lib.hid (HCm.out u v b1 b2)
          have m1 := Lib.hid (show IntKind.i64.wrap ((j : Int) - 1) = (p : Int) by rw [IntWalk.i64_in _ (by omega)]; omega)
          have q1 := Lib.hid (show (0 : Int) ≤ (j : Int) ∧ (j : Int) < (n : Int) by omega)
          have q2 := Lib.hid (show (0 : Int) ≤ (p : Int) ∧ (p : Int) < (n : Int) by omega)
          have q0 := Lib.hid (show decide ((a : Int) < (j : Int)) = true from decide_eq_true (by omega))
          have HAr := Lib.hid ha
          have HIn := Lib.hid hin
          have HN2 := Lib.hid HN
          have HN4 := Lib.hid (fun (W : World) (h : Touch [] wr W) => HN5 W h)
          have HD1 := Lib.hid (fun (W : World) (h : Touch [] wr W) => HD6 W h)
          have HT := Lib.hid ht
          have hpj : p < j := by omega
          have hap : a ≤ p := by omega
          have hjn : j < n := by omega
          have hp1 : (j : Int) - 1 = (p : Int) := by omega
          have HP1 := Lib.hid hp1
          clear hp1 ha ht hs hin HN hp hu hv b1 b2 HN5 HD6
          by_cases hcmp : kf u < kf v
          · have k1 := Lib.hid (show decide (cmpF u v < 0) = true by rw [cmpF_lt]; exact decide_eq_true hcmp)
            have HIs := Lib.hid (hstep hcmp)
            have HI2 := Lib.hid hin2
            clear hstep hdone hin2 hcmp
            go_upto_region 4 with fail
            -- GF ins4t
            refine wp_region_flowT (by kernel_rfl) 17 (lookW [(9, pu (isV (.int .i64 (j : Int)))), (1, pu (isV (.int .i64 (a : Int)))), (3, pu (isV (cfV))), (0, pu (isV (.slice (some ⟨g, off, none⟩) n c))), (18, pu (isV (.int .i64 (j : Int)))), (19, pu (isV (.int .i64 (a : Int)))), (20, pu (isV (.bool true))), (21, pu (isV (.bool true))), (22, pu (isV (cfV))), (23, pu (isV (.slice (some ⟨g, off, none⟩) n c))), (24, pu (isV (.int .i64 (j : Int)))), (25, pu (isV (.pointer (some ⟨g, off + j, none⟩)))), (26, pu (isV (.float .f64 u))), (27, pu (isV (.slice (some ⟨g, off, none⟩) n c))), (28, pu (isV (.int .i64 (j : Int)))), (29, pu (isV (.int .i64 (p : Int)))), (30, pu (isV (.pointer (some ⟨g, off + p, none⟩)))), (31, pu (isV (.float .f64 v))), (32, pu (isV (.int .i64 (cmpF u v)))), (33, pu (isV (.bool true))), (34, pu (isV (.bool true)))]) [9, 1, 3, 0] [18, 19, 20, 21, 22, 23, 24, 25, 26, 27, 28, 29, 30, 31, 32, 33, 34] [34] (by kernel_rfl) (by kernel_rfl) (by kernel_rfl) (by kernel_rfl) ⟨rfl, rfl, rfl, rfl, trivial⟩ ?_ ?_
            · refine FStepsW.cons (FStepW.plain rfl fun ac w hS hE => OpTo.moveG 18 rfl rfl (hE 9 (by kernel_rfl))) ?_
              refine FStepsW.cons (FStepW.plain rfl fun ac w hS hE => OpTo.moveG 19 rfl rfl (hE 1 (by kernel_rfl))) ?_
              refine FStepsW.cons (FStepW.plain rfl fun ac w hS hE => OpTo.pureG (v := .bool true) 20 rfl (by have h18 : ac.eval (.tmp 18) = .int .i64 (j : Int) := hE 18 (by kernel_rfl); have h19 : ac.eval (.tmp 19) = .int .i64 (a : Int) := hE 19 (by kernel_rfl); have q := q0.out; unfold execOp; simp only [h18, h19]; go_simp) rfl) ?_
              refine FStepsW.cons (FStepW.plain rfl fun ac w hS hE => OpTo.moveG 21 rfl rfl (hE 20 (by kernel_rfl))) ?_
              refine FStepsW.cons (FStepW.go 21 rfl rfl (fun _ _ h => h) fun ac w hS hE => OpTo.moveG 22 rfl rfl (hE 3 (by kernel_rfl))) ?_
              refine FStepsW.cons (FStepW.go 21 rfl rfl (fun _ _ h => h) fun ac w hS hE => OpTo.moveG 23 rfl rfl (hE 0 (by kernel_rfl))) ?_
              refine FStepsW.cons (FStepW.go 21 rfl rfl (fun _ _ h => h) fun ac w hS hE => OpTo.moveG 24 rfl rfl (hE 9 (by kernel_rfl))) ?_
              refine FStepsW.cons (FStepW.go 21 rfl rfl (fun _ _ h => h) fun ac w hS hE => OpTo.pureG (v := .pointer (some ⟨g, off + j, none⟩)) 25 rfl (by have h23 : ac.eval (.tmp 23) = .slice (some ⟨g, off, none⟩) n c := hE 23 (by kernel_rfl); have h24 : ac.eval (.tmp 24) = .int .i64 (j : Int) := hE 24 (by kernel_rfl); have q := q1.out; unfold execOp; simp only [h23, h24]; go_simp) rfl) ?_
              refine FStepsW.cons (FStepW.go 21 rfl rfl (fun _ _ h => h) fun ac w hS hE => OpTo.pureG (v := .float .f64 u) 26 rfl (by have h25 : ac.eval (.tmp 25) = .pointer (some ⟨g, off + j, none⟩) := hE 25 (by kernel_rfl); have hcell : w.cell? ⟨g, off + j, none⟩ = some (.float .f64 u) := HC1.out w hS; unfold execOp; simp only [h25]; go_simp) rfl) ?_
              refine FStepsW.cons (FStepW.go 21 rfl rfl (fun _ _ h => h) fun ac w hS hE => OpTo.moveG 27 rfl rfl (hE 0 (by kernel_rfl))) ?_
              refine FStepsW.cons (FStepW.go 21 rfl rfl (fun _ _ h => h) fun ac w hS hE => OpTo.moveG 28 rfl rfl (hE 9 (by kernel_rfl))) ?_
              refine FStepsW.cons (FStepW.go 21 rfl rfl (fun _ _ h => h) fun ac w hS hE => OpTo.pureG (v := .int .i64 (p : Int)) 29 rfl (by have h28 : ac.eval (.tmp 28) = .int .i64 (j : Int) := hE 28 (by kernel_rfl); have q := m1.out; unfold execOp; simp only [h28]; go_simp) rfl) ?_
              refine FStepsW.cons (FStepW.go 21 rfl rfl (fun _ _ h => h) fun ac w hS hE => OpTo.pureG (v := .pointer (some ⟨g, off + p, none⟩)) 30 rfl (by have h27 : ac.eval (.tmp 27) = .slice (some ⟨g, off, none⟩) n c := hE 27 (by kernel_rfl); have h29 : ac.eval (.tmp 29) = .int .i64 (p : Int) := hE 29 (by kernel_rfl); have q := q2.out; unfold execOp; simp only [h27, h29]; go_simp) rfl) ?_
              refine FStepsW.cons (FStepW.go 21 rfl rfl (fun _ _ h => h) fun ac w hS hE => OpTo.pureG (v := .float .f64 v) 31 rfl (by have h30 : ac.eval (.tmp 30) = .pointer (some ⟨g, off + p, none⟩) := hE 30 (by kernel_rfl); have hcell : w.cell? ⟨g, off + p, none⟩ = some (.float .f64 v) := HC2.out w hS; unfold execOp; simp only [h30]; go_simp) rfl) ?_
              refine FStepsW.cons (FStepW.go 21 rfl rfl (fun _ _ h => h) fun ac w hS hE => OpTo.callV #[.float .f64 u, .float .f64 v] 32 rfl rfl (hE 22 (by kernel_rfl)) Try.func37 (by kernel_rfl) (by kernel_rfl) (argE2 (hE 26 (by kernel_rfl)) (hE 31 (by kernel_rfl))) (cT (HB.out w)) (fun _ => rfl)) ?_
              refine FStepsW.cons (FStepW.go 21 rfl rfl (fun _ _ h => h) fun ac w hS hE => OpTo.pureG (v := .bool true) 33 rfl (by have h32 : ac.eval (.tmp 32) = .int .i64 (cmpF u v) := hE 32 (by kernel_rfl); have q := k1.out; unfold execOp; simp only [h32]; go_simp) rfl) ?_
              refine FStepsW.cons (FStepW.plain rfl fun ac w hS hE => OpTo.pickG true 34 rfl rfl (hE 21 (by kernel_rfl)) (hE 33 (by kernel_rfl))) ?_
              exact FStepsW.nil
            intro f wx hS hF
            obtain ⟨h34, -⟩ := hF
            replace h34 : f 34 = .bool true := h34
            simp only [setAll, List.setIfInBounds_toArray, List.set_cons_zero, List.set_cons_succ, h34]
            show wpList _ _ _ [] _ _
            -- END
            have ht := hS
            clear hS
            have HT2 := Lib.hid (HT.out.trans (ht.mono (fun _ h _ => by cases h)))
            have HAr2 := Lib.hid (HAr.out.touch ht)
            have HN3 := Lib.hid (HN4.out wx ht)
            have c1' := (ht.cell (p := ⟨g, off + j, none⟩) HAr.out.lt (by simp)).trans c1
            have c2' := (ht.cell (p := ⟨g, off + p, none⟩) HAr.out.lt (by simp)).trans c2
            have f1' := HAr2.out.free (off + j)
            have f2' := HAr2.out.free (off + p)
            have d1' := HD1.out wx ht
            clear c1 c2 f1 f2 d1 ht HN2 HN4 HT HAr HC1 HC2 HD1 HB
            go_wp2_with fail
            have m1' := m1.out
            have q2' := q2.out
            go_region
            clear m1' q2' c1' c2' f1' f2' d1'
            go_wp2_with fail
            go_roundw
            case rel => exact ⟨p, _, by omega, by omega, by rw [HP1.out], HN3.out.drew, HI2.out, HIs.out, (touch_swp HT2.out (.inl (by simp)) _ _ _ _).drew⟩
            case measure =>
              have := HP1.out
              simp [intOf]; omega
          · have k1 := Lib.hid (show decide (cmpF u v < 0) = false by rw [cmpF_lt]; exact decide_eq_false hcmp)
            have HD := Lib.hid (hdone (.inr hcmp))
            clear hstep hdone hin2 hcmp
            clear c1 c2 f1 f2 d1 HN4 HD1
            go_upto_region 4 with fail
            -- GF ins4f
            refine wp_region_flowT (by kernel_rfl) 17 (lookW [(9, pu (isV (.int .i64 (j : Int)))), (1, pu (isV (.int .i64 (a : Int)))), (3, pu (isV (cfV))), (0, pu (isV (.slice (some ⟨g, off, none⟩) n c))), (18, pu (isV (.int .i64 (j : Int)))), (19, pu (isV (.int .i64 (a : Int)))), (20, pu (isV (.bool true))), (21, pu (isV (.bool true))), (22, pu (isV (cfV))), (23, pu (isV (.slice (some ⟨g, off, none⟩) n c))), (24, pu (isV (.int .i64 (j : Int)))), (25, pu (isV (.pointer (some ⟨g, off + j, none⟩)))), (26, pu (isV (.float .f64 u))), (27, pu (isV (.slice (some ⟨g, off, none⟩) n c))), (28, pu (isV (.int .i64 (j : Int)))), (29, pu (isV (.int .i64 (p : Int)))), (30, pu (isV (.pointer (some ⟨g, off + p, none⟩)))), (31, pu (isV (.float .f64 v))), (32, pu (isV (.int .i64 (cmpF u v)))), (33, pu (isV (.bool false))), (34, pu (isV (.bool false)))]) [9, 1, 3, 0] [18, 19, 20, 21, 22, 23, 24, 25, 26, 27, 28, 29, 30, 31, 32, 33, 34] [34] (by kernel_rfl) (by kernel_rfl) (by kernel_rfl) (by kernel_rfl) ⟨rfl, rfl, rfl, rfl, trivial⟩ ?_ ?_
            · refine FStepsW.cons (FStepW.plain rfl fun ac w hS hE => OpTo.moveG 18 rfl rfl (hE 9 (by kernel_rfl))) ?_
              refine FStepsW.cons (FStepW.plain rfl fun ac w hS hE => OpTo.moveG 19 rfl rfl (hE 1 (by kernel_rfl))) ?_
              refine FStepsW.cons (FStepW.plain rfl fun ac w hS hE => OpTo.pureG (v := .bool true) 20 rfl (by have h18 : ac.eval (.tmp 18) = .int .i64 (j : Int) := hE 18 (by kernel_rfl); have h19 : ac.eval (.tmp 19) = .int .i64 (a : Int) := hE 19 (by kernel_rfl); have q := q0.out; unfold execOp; simp only [h18, h19]; go_simp) rfl) ?_
              refine FStepsW.cons (FStepW.plain rfl fun ac w hS hE => OpTo.moveG 21 rfl rfl (hE 20 (by kernel_rfl))) ?_
              refine FStepsW.cons (FStepW.go 21 rfl rfl (fun _ _ h => h) fun ac w hS hE => OpTo.moveG 22 rfl rfl (hE 3 (by kernel_rfl))) ?_
              refine FStepsW.cons (FStepW.go 21 rfl rfl (fun _ _ h => h) fun ac w hS hE => OpTo.moveG 23 rfl rfl (hE 0 (by kernel_rfl))) ?_
              refine FStepsW.cons (FStepW.go 21 rfl rfl (fun _ _ h => h) fun ac w hS hE => OpTo.moveG 24 rfl rfl (hE 9 (by kernel_rfl))) ?_
              refine FStepsW.cons (FStepW.go 21 rfl rfl (fun _ _ h => h) fun ac w hS hE => OpTo.pureG (v := .pointer (some ⟨g, off + j, none⟩)) 25 rfl (by have h23 : ac.eval (.tmp 23) = .slice (some ⟨g, off, none⟩) n c := hE 23 (by kernel_rfl); have h24 : ac.eval (.tmp 24) = .int .i64 (j : Int) := hE 24 (by kernel_rfl); have q := q1.out; unfold execOp; simp only [h23, h24]; go_simp) rfl) ?_
              refine FStepsW.cons (FStepW.go 21 rfl rfl (fun _ _ h => h) fun ac w hS hE => OpTo.pureG (v := .float .f64 u) 26 rfl (by have h25 : ac.eval (.tmp 25) = .pointer (some ⟨g, off + j, none⟩) := hE 25 (by kernel_rfl); have hcell : w.cell? ⟨g, off + j, none⟩ = some (.float .f64 u) := HC1.out w hS; unfold execOp; simp only [h25]; go_simp) rfl) ?_
              refine FStepsW.cons (FStepW.go 21 rfl rfl (fun _ _ h => h) fun ac w hS hE => OpTo.moveG 27 rfl rfl (hE 0 (by kernel_rfl))) ?_
              refine FStepsW.cons (FStepW.go 21 rfl rfl (fun _ _ h => h) fun ac w hS hE => OpTo.moveG 28 rfl rfl (hE 9 (by kernel_rfl))) ?_
              refine FStepsW.cons (FStepW.go 21 rfl rfl (fun _ _ h => h) fun ac w hS hE => OpTo.pureG (v := .int .i64 (p : Int)) 29 rfl (by have h28 : ac.eval (.tmp 28) = .int .i64 (j : Int) := hE 28 (by kernel_rfl); have q := m1.out; unfold execOp; simp only [h28]; go_simp) rfl) ?_
              refine FStepsW.cons (FStepW.go 21 rfl rfl (fun _ _ h => h) fun ac w hS hE => OpTo.pureG (v := .pointer (some ⟨g, off + p, none⟩)) 30 rfl (by have h27 : ac.eval (.tmp 27) = .slice (some ⟨g, off, none⟩) n c := hE 27 (by kernel_rfl); have h29 : ac.eval (.tmp 29) = .int .i64 (p : Int) := hE 29 (by kernel_rfl); have q := q2.out; unfold execOp; simp only [h27, h29]; go_simp) rfl) ?_
              refine FStepsW.cons (FStepW.go 21 rfl rfl (fun _ _ h => h) fun ac w hS hE => OpTo.pureG (v := .float .f64 v) 31 rfl (by have h30 : ac.eval (.tmp 30) = .pointer (some ⟨g, off + p, none⟩) := hE 30 (by kernel_rfl); have hcell : w.cell? ⟨g, off + p, none⟩ = some (.float .f64 v) := HC2.out w hS; unfold execOp; simp only [h30]; go_simp) rfl) ?_
              refine FStepsW.cons (FStepW.go 21 rfl rfl (fun _ _ h => h) fun ac w hS hE => OpTo.callV #[.float .f64 u, .float .f64 v] 32 rfl rfl (hE 22 (by kernel_rfl)) Try.func37 (by kernel_rfl) (by kernel_rfl) (argE2 (hE 26 (by kernel_rfl)) (hE 31 (by kernel_rfl))) (cT (HB.out w)) (fun _ => rfl)) ?_
              refine FStepsW.cons (FStepW.go 21 rfl rfl (fun _ _ h => h) fun ac w hS hE => OpTo.pureG (v := .bool false) 33 rfl (by have h32 : ac.eval (.tmp 32) = .int .i64 (cmpF u v) := hE 32 (by kernel_rfl); have q := k1.out; unfold execOp; simp only [h32]; go_simp) rfl) ?_
              refine FStepsW.cons (FStepW.plain rfl fun ac w hS hE => OpTo.pickG true 34 rfl rfl (hE 21 (by kernel_rfl)) (hE 33 (by kernel_rfl))) ?_
              exact FStepsW.nil
            intro f wx hS hF
            obtain ⟨h34, -⟩ := hF
            replace h34 : f 34 = .bool false := h34
            simp only [setAll, List.setIfInBounds_toArray, List.set_cons_zero, List.set_cons_succ, h34]
            show wpList _ _ _ [] _ _
            -- END
            have HAr2 := Lib.hid (HAr.out.touch hS)
            have HT2 := Lib.hid (HT.out.trans (hS.mono (fun _ h _ => by cases h)))
            clear hS HAr HT HN2 HC1 HC2 HB
            go_wp2_with fail
            go_roundw
            case rel => exact ⟨i + 1, _, by omega, .inl (by omega), by go_num, HAr2.out, HIn.out, HD.out, HT2.out⟩
            case measure => simp [intOf]; omega
        · obtain rfl : j = a := by omega
          have q0 := Lib.hid (show decide ((j : Int) < (j : Int)) = false from decide_eq_false (by omega))
          have HD := Lib.hid (hs.done haj hji (.inl rfl))
          have HAr := Lib.hid ha
          have HIn := Lib.hid hin
          have HT := Lib.hid ht
          clear ha hin hs ht
          go_upto_region 4 with fail
          -- GF ins4n
          refine wp_region_flowT (by kernel_rfl) 17 (lookW [(9, pu (isV (.int .i64 (j : Int)))), (1, pu (isV (.int .i64 (j : Int)))), (3, pu (isV (cfV))), (0, pu (isV (.slice (some ⟨g, off, none⟩) n c))), (18, pu (isV (.int .i64 (j : Int)))), (19, pu (isV (.int .i64 (j : Int)))), (20, pu (isV (.bool false))), (21, pu (isV (.bool false))), (22, pu (isV (undef))), (23, pu (isV (undef))), (24, pu (isV (undef))), (25, pu (isV (undef))), (26, pu (isV (undef))), (27, pu (isV (undef))), (28, pu (isV (undef))), (29, pu (isV (undef))), (30, pu (isV (undef))), (31, pu (isV (undef))), (32, pu (isV (undef))), (33, pu (isV (undef))), (34, pu (isV (.bool false)))]) [9, 1, 3, 0] [18, 19, 20, 21, 22, 23, 24, 25, 26, 27, 28, 29, 30, 31, 32, 33, 34] [34] (by kernel_rfl) (by kernel_rfl) (by kernel_rfl) (by kernel_rfl) ⟨rfl, rfl, rfl, rfl, trivial⟩ ?_ ?_
          · refine FStepsW.cons (FStepW.plain rfl fun ac w hS hE => OpTo.moveG 18 rfl rfl (hE 9 (by kernel_rfl))) ?_
            refine FStepsW.cons (FStepW.plain rfl fun ac w hS hE => OpTo.moveG 19 rfl rfl (hE 1 (by kernel_rfl))) ?_
            refine FStepsW.cons (FStepW.plain rfl fun ac w hS hE => OpTo.pureG (v := .bool false) 20 rfl (by have h18 : ac.eval (.tmp 18) = .int .i64 (j : Int) := hE 18 (by kernel_rfl); have h19 : ac.eval (.tmp 19) = .int .i64 (j : Int) := hE 19 (by kernel_rfl); have q := q0.out; unfold execOp; simp only [h18, h19]; go_simp) rfl) ?_
            refine FStepsW.cons (FStepW.plain rfl fun ac w hS hE => OpTo.moveG 21 rfl rfl (hE 20 (by kernel_rfl))) ?_
            refine FStepsW.cons (FStepW.no 21 rfl rfl (fun _ _ h => h) (fun _ => dOfW.of 22 rfl rfl)) ?_
            refine FStepsW.cons (FStepW.no 21 rfl rfl (fun _ _ h => h) (fun _ => dOfW.of 23 rfl rfl)) ?_
            refine FStepsW.cons (FStepW.no 21 rfl rfl (fun _ _ h => h) (fun _ => dOfW.of 24 rfl rfl)) ?_
            refine FStepsW.cons (FStepW.no 21 rfl rfl (fun _ _ h => h) (fun _ => dOfW.of 25 rfl rfl)) ?_
            refine FStepsW.cons (FStepW.no 21 rfl rfl (fun _ _ h => h) (fun _ => dOfW.of 26 rfl rfl)) ?_
            refine FStepsW.cons (FStepW.no 21 rfl rfl (fun _ _ h => h) (fun _ => dOfW.of 27 rfl rfl)) ?_
            refine FStepsW.cons (FStepW.no 21 rfl rfl (fun _ _ h => h) (fun _ => dOfW.of 28 rfl rfl)) ?_
            refine FStepsW.cons (FStepW.no 21 rfl rfl (fun _ _ h => h) (fun _ => dOfW.of 29 rfl rfl)) ?_
            refine FStepsW.cons (FStepW.no 21 rfl rfl (fun _ _ h => h) (fun _ => dOfW.of 30 rfl rfl)) ?_
            refine FStepsW.cons (FStepW.no 21 rfl rfl (fun _ _ h => h) (fun _ => dOfW.of 31 rfl rfl)) ?_
            refine FStepsW.cons (FStepW.no 21 rfl rfl (fun _ _ h => h) (fun _ => dOfW.of 32 rfl rfl)) ?_
            refine FStepsW.cons (FStepW.no 21 rfl rfl (fun _ _ h => h) (fun _ => dOfW.of 33 rfl rfl)) ?_
            refine FStepsW.cons (FStepW.plain rfl fun ac w hS hE => OpTo.pickG false 34 rfl rfl (hE 21 (by kernel_rfl)) rfl) ?_
            exact FStepsW.nil
          intro f wx hS hF
          obtain ⟨h34, -⟩ := hF
          replace h34 : f 34 = .bool false := h34
          simp only [setAll, List.setIfInBounds_toArray, List.set_cons_zero, List.set_cons_succ, h34]
          show wpList _ _ _ [] _ _
          -- END
          have HAr2 := Lib.hid (HAr.out.touch hS)
          have HT2 := Lib.hid (HT.out.trans (hS.mono (fun _ h _ => by cases h)))
          clear hS HAr HT
          go_wp2_with fail
          go_roundw
          case rel => exact ⟨i + 1, _, by omega, .inl (by omega), by go_num, HAr2.out, HIn.out, HD.out, HT2.out⟩
          case measure => simp [intOf]; omega
    · have HS2 := Lib.hid (show Srt e a b by
        rcases hib with h | h
        · rw [show b = i by omega]; exact HS.out
        · exact srt_tiny _ (by omega))
      clear HS
      go_wp2_with fail
      go_end0
      exact ⟨rfl, e, HA.out, HI.out, HS2.out, HT.out⟩
end Go.Proofs.Ytbpgbjhjnemaoaa
