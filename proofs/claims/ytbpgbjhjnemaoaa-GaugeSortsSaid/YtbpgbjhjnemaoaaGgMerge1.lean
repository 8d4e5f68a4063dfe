/- The merge of one number from below: the walk. -/
import Derived.Test.YtbpgbjhjnemaoaaGgInsert
namespace Go.Proofs.Ytbpgbjhjnemaoaa
open Go Go.RowKit
set_option maxRecDepth 100000 in
set_option maxHeartbeats 4000000 in
theorem merge_up (g off n c : Nat) (d : Nat → Nat) (a b : Nat) (hab : a + 1 < b) (hb : b ≤ n) (hn : n < 1000000) (wA : World) (h : Arr wA g off n d) (hs : Srt d (a + 1) b) :
    Calls Try.prog 43 #[.slice (some ⟨g, off, none⟩) n c, .int .i64 (a : Int), .int .i64 ((a + 1 : Nat) : Int), .int .i64 (b : Int), cfV] wA fun e w' => e = .returned (.tuple #[]) ∧ ∃ d', Arr w' g off n d' ∧ In d d' a b n ∧ Srt d' a b ∧ Touch [g] wA w' := by
  have HA := Lib.hid h
  have HS := Lib.hid hs
  have HCm := Lib.hid (fun (a b : Nat) (ha : a < 18446744073709551616) (hb : b < 18446744073709551616) (W : World) => cmp_any a b ha hb W)
  have m1 : IntKind.i64.wrap (((a + 1 : Nat) : Int) - (a : Int)) = 1 := by rw [IntWalk.i64_in _ (by omega)]; omega
  clear h hs
  obtain ⟨m, hm⟩ : ∃ m, m = a + 1 := ⟨_, rfl⟩
  have HM := Lib.hid hm
  have ham : a < m := by omega
  have hmb : m < b := by omega
  have hma : m ≤ a + 1 := by omega
  rw [← hm] at m1 ⊢
  clear hm
  go_enter Try.func43, Try.ntmps43
  go_wp2_with fail
  go_loopw [10, 11] (fun vi vj wr => ∃ i j : Nat, m ≤ i ∧ i ≤ j ∧ j ≤ b ∧ vi = .int .i64 (i : Int) ∧ vj = .int .i64 (j : Int) ∧ Arr wr g off n d ∧ (∀ k, m ≤ k → k < i → kf (d k) < kf (d a)) ∧ (∀ k, j ≤ k → k < b → kf (d a) ≤ kf (d k)) ∧ Touch [g] wA wr) (fun vi vj _ => (intOf vj).toNat - (intOf vi).toNat)
  case atStart => exact ⟨m, b, by omega, by omega, by omega, rfl, rfl, HA.out, fun k h1 h2 => by omega, fun k h1 h2 => by omega, Touch.refl _ _⟩
  case round =>
    obtain ⟨i, j, hmi, hij, hjb, rfl, rfl, ha, hlo, hhi, ht⟩ := hrel
    clear HA
    by_cases hlt : i < j
    · go_upto_region 5 with fail
      obtain ⟨k, hk⟩ : ∃ k : Nat, ((i : Int) + (j : Int)) / 2 = (k : Int) := ⟨(i + j) / 2, by omega⟩
      rw [hk]
      have hki : i ≤ k := by omega
      have hkj : k < j := by omega
      clear hk
      have c1 := ha.cell (show k < n by omega)
      have c2 := ha.cell (show a < n by omega)
      have b1 := ha.bd (show k < n by omega)
      have b2 := ha.bd (show a < n by omega)
      obtain ⟨u, hu⟩ : ∃ u, u = d k := ⟨_, rfl⟩
      obtain ⟨v, hv⟩ : ∃ v, v = d a := ⟨_, rfl⟩
      rw [← hu] at c1 b1
      rw [← hv] at c2 b2
      have HC1 := Lib.hid (fun (W : World) (h : Touch [] wr W) => (h.cell (p := ⟨g, off + k, none⟩) ha.lt (by simp)).trans c1)
      have HC2 := Lib.hid (fun (W : World) (h : Touch [] wr W) => (h.cell (p := ⟨g, off + a, none⟩) ha.lt (by simp)).trans c2)
      have HB := Lib.hid (HCm.out u v b1 b2)
      have q1 := Lib.hid (show (0 : Int) ≤ (k : Int) ∧ (k : Int) < (n : Int) by omega)
      have q2 := Lib.hid (show (0 : Int) ≤ (a : Int) ∧ (a : Int) < (n : Int) by omega)
      have HAr := Lib.hid ha
      have HT := Lib.hid ht
      have HL := Lib.hid hlo
      have HH := Lib.hid hhi
      have Hu := Lib.hid hu
      have Hv := Lib.hid hv
      clear ha ht hlo hhi c1 c2 b1 b2 hu hv
      by_cases hcmp : kf u < kf v
      · have k1 := Lib.hid (show decide (cmpF u v < 0) = true by rw [cmpF_lt]; exact decide_eq_true hcmp)
        have HK := Lib.hid (show kf (d k) < kf (d a) by rw [← Hu.out, ← Hv.out]; exact hcmp)
        clear hcmp
        -- GF mu5t
        refine wp_region_flowT (by kernel_rfl) 11 (lookW [(4, pu (isV (cfV))), (0, pu (isV (.slice (some ⟨g, off, none⟩) n c))), (12, pu (isV (.int .i64 (k : Int)))), (1, pu (isV (.int .i64 (a : Int)))), (40, pu (isV (cfV))), (41, pu (isV (.slice (some ⟨g, off, none⟩) n c))), (42, pu (isV (.int .i64 (k : Int)))), (43, pu (isV (.pointer (some ⟨g, off + k, none⟩)))), (44, pu (isV (.float .f64 u))), (45, pu (isV (.slice (some ⟨g, off, none⟩) n c))), (46, pu (isV (.int .i64 (a : Int)))), (47, pu (isV (.pointer (some ⟨g, off + a, none⟩)))), (48, pu (isV (.float .f64 v))), (49, pu (isV (.int .i64 (cmpF u v)))), (50, pu (isV (.bool true)))]) [4, 0, 12, 1] [40, 41, 42, 43, 44, 45, 46, 47, 48, 49, 50] [50] (by kernel_rfl) (by kernel_rfl) (by kernel_rfl) (by kernel_rfl) ⟨rfl, rfl, rfl, rfl, trivial⟩ ?_ ?_
        · refine FStepsW.cons (FStepW.plain rfl fun ac w hS hE => OpTo.moveG 40 rfl rfl (hE 4 (by kernel_rfl))) ?_
          refine FStepsW.cons (FStepW.plain rfl fun ac w hS hE => OpTo.moveG 41 rfl rfl (hE 0 (by kernel_rfl))) ?_
          refine FStepsW.cons (FStepW.plain rfl fun ac w hS hE => OpTo.moveG 42 rfl rfl (hE 12 (by kernel_rfl))) ?_
          refine FStepsW.cons (FStepW.plain rfl fun ac w hS hE => OpTo.pureG (v := .pointer (some ⟨g, off + k, none⟩)) 43 rfl (by have h41 : ac.eval (.tmp 41) = .slice (some ⟨g, off, none⟩) n c := hE 41 (by kernel_rfl); have h42 : ac.eval (.tmp 42) = .int .i64 (k : Int) := hE 42 (by kernel_rfl); have q := q1.out; unfold execOp; simp only [h41, h42]; go_simp) rfl) ?_
          refine FStepsW.cons (FStepW.plain rfl fun ac w hS hE => OpTo.pureG (v := .float .f64 u) 44 rfl (by have h43 : ac.eval (.tmp 43) = .pointer (some ⟨g, off + k, none⟩) := hE 43 (by kernel_rfl); have hcell : w.cell? ⟨g, off + k, none⟩ = some (.float .f64 u) := HC1.out w hS; unfold execOp; simp only [h43]; go_simp) rfl) ?_
          refine FStepsW.cons (FStepW.plain rfl fun ac w hS hE => OpTo.moveG 45 rfl rfl (hE 0 (by kernel_rfl))) ?_
          refine FStepsW.cons (FStepW.plain rfl fun ac w hS hE => OpTo.moveG 46 rfl rfl (hE 1 (by kernel_rfl))) ?_
          refine FStepsW.cons (FStepW.plain rfl fun ac w hS hE => OpTo.pureG (v := .pointer (some ⟨g, off + a, none⟩)) 47 rfl (by have h45 : ac.eval (.tmp 45) = .slice (some ⟨g, off, none⟩) n c := hE 45 (by kernel_rfl); have h46 : ac.eval (.tmp 46) = .int .i64 (a : Int) := hE 46 (by kernel_rfl); have q := q2.out; unfold execOp; simp only [h45, h46]; go_simp) rfl) ?_
          refine FStepsW.cons (FStepW.plain rfl fun ac w hS hE => OpTo.pureG (v := .float .f64 v) 48 rfl (by have h47 : ac.eval (.tmp 47) = .pointer (some ⟨g, off + a, none⟩) := hE 47 (by kernel_rfl); have hcell : w.cell? ⟨g, off + a, none⟩ = some (.float .f64 v) := HC2.out w hS; unfold execOp; simp only [h47]; go_simp) rfl) ?_
          refine FStepsW.cons (FStepW.plain rfl fun ac w hS hE => OpTo.callV #[.float .f64 u, .float .f64 v] 49 rfl rfl (hE 40 (by kernel_rfl)) Try.func37 (by kernel_rfl) (by kernel_rfl) (argE2 (hE 44 (by kernel_rfl)) (hE 48 (by kernel_rfl))) (cT (HB.out w)) (fun _ => rfl)) ?_
          refine FStepsW.cons (FStepW.plain rfl fun ac w hS hE => OpTo.pureG (v := .bool true) 50 rfl (by have h49 : ac.eval (.tmp 49) = .int .i64 (cmpF u v) := hE 49 (by kernel_rfl); have q := k1.out; unfold execOp; simp only [h49]; go_simp) rfl) ?_
          exact FStepsW.nil
        intro f wx hS hF
        obtain ⟨h50, -⟩ := hF
        replace h50 : f 50 = .bool true := h50
        simp only [setAll, List.setIfInBounds_toArray, List.set_cons_zero, List.set_cons_succ, h50]
        show wpList _ _ _ [] _ _
        -- END
        have HAr2 := Lib.hid (HAr.out.touch hS)
        have HT2 := Lib.hid (HT.out.trans (hS.mono (fun _ h _ => by cases h)))
        clear hS HAr HT HC1 HC2 HB
        go_wp2_with fail
        go_roundw
        case rel => exact ⟨k + 1, j, by omega, by omega, hjb, by go_num, rfl, HAr2.out, fun q h1 h2 => by
          have h3 := HS.out q k (by omega) (by omega) (by omega)
          have h4 := HK.out
          omega, HH.out, HT2.out⟩
        case measure => simp [intOf]; omega
      · have k1 := Lib.hid (show decide (cmpF u v < 0) = false by rw [cmpF_lt]; exact decide_eq_false hcmp)
        have HK := Lib.hid (show ¬ kf (d k) < kf (d a) by rw [← Hu.out, ← Hv.out]; exact hcmp)
        clear hcmp
        -- GF mu5f
        refine wp_region_flowT (by kernel_rfl) 11 (lookW [(4, pu (isV (cfV))), (0, pu (isV (.slice (some ⟨g, off, none⟩) n c))), (12, pu (isV (.int .i64 (k : Int)))), (1, pu (isV (.int .i64 (a : Int)))), (40, pu (isV (cfV))), (41, pu (isV (.slice (some ⟨g, off, none⟩) n c))), (42, pu (isV (.int .i64 (k : Int)))), (43, pu (isV (.pointer (some ⟨g, off + k, none⟩)))), (44, pu (isV (.float .f64 u))), (45, pu (isV (.slice (some ⟨g, off, none⟩) n c))), (46, pu (isV (.int .i64 (a : Int)))), (47, pu (isV (.pointer (some ⟨g, off + a, none⟩)))), (48, pu (isV (.float .f64 v))), (49, pu (isV (.int .i64 (cmpF u v)))), (50, pu (isV (.bool false)))]) [4, 0, 12, 1] [40, 41, 42, 43, 44, 45, 46, 47, 48, 49, 50] [50] (by kernel_rfl) (by kernel_rfl) (by kernel_rfl) (by kernel_rfl) ⟨rfl, rfl, rfl, rfl, trivial⟩ ?_ ?_
        · refine FStepsW.cons (FStepW.plain rfl fun ac w hS hE => OpTo.moveG 40 rfl rfl (hE 4 (by kernel_rfl))) ?_
          refine FStepsW.cons (FStepW.plain rfl fun ac w hS hE => OpTo.moveG 41 rfl rfl (hE 0 (by kernel_rfl))) ?_
          refine FStepsW.cons (FStepW.plain rfl fun ac w hS hE => OpTo.moveG 42 rfl rfl (hE 12 (by kernel_rfl))) ?_
          refine FStepsW.cons (FStepW.plain rfl fun ac w hS hE => OpTo.pureG (v := .pointer (some ⟨g, off + k, none⟩)) 43 rfl (by have h41 : ac.eval (.tmp 41) = .slice (some ⟨g, off, none⟩) n c := hE 41 (by kernel_rfl); have h42 : ac.eval (.tmp 42) = .int .i64 (k : Int) := hE 42 (by kernel_rfl); have q := q1.out; unfold execOp; simp only [h41, h42]; go_simp) rfl) ?_
          refine FStepsW.cons (FStepW.plain rfl fun ac w hS hE => OpTo.pureG (v := .float .f64 u) 44 rfl (by have h43 : ac.eval (.tmp 43) = .pointer (some ⟨g, off + k, none⟩) := hE 43 (by kernel_rfl); have hcell : w.cell? ⟨g, off + k, none⟩ = some (.float .f64 u) := HC1.out w hS; unfold execOp; simp only [h43]; go_simp) rfl) ?_
          refine FStepsW.cons (FStepW.plain rfl fun ac w hS hE => OpTo.moveG 45 rfl rfl (hE 0 (by kernel_rfl))) ?_
          refine FStepsW.cons (FStepW.plain rfl fun ac w hS hE => OpTo.moveG 46 rfl rfl (hE 1 (by kernel_rfl))) ?_
          refine FStepsW.cons (FStepW.plain rfl fun ac w hS hE => OpTo.pureG (v := .pointer (some ⟨g, off + a, none⟩)) 47 rfl (by have h45 : ac.eval (.tmp 45) = .slice (some ⟨g, off, none⟩) n c := hE 45 (by kernel_rfl); have h46 : ac.eval (.tmp 46) = .int .i64 (a : Int) := hE 46 (by kernel_rfl); have q := q2.out; unfold execOp; simp only [h45, h46]; go_simp) rfl) ?_
          refine FStepsW.cons (FStepW.plain rfl fun ac w hS hE => OpTo.pureG (v := .float .f64 v) 48 rfl (by have h47 : ac.eval (.tmp 47) = .pointer (some ⟨g, off + a, none⟩) := hE 47 (by kernel_rfl); have hcell : w.cell? ⟨g, off + a, none⟩ = some (.float .f64 v) := HC2.out w hS; unfold execOp; simp only [h47]; go_simp) rfl) ?_
          refine FStepsW.cons (FStepW.plain rfl fun ac w hS hE => OpTo.callV #[.float .f64 u, .float .f64 v] 49 rfl rfl (hE 40 (by kernel_rfl)) Try.func37 (by kernel_rfl) (by kernel_rfl) (argE2 (hE 44 (by kernel_rfl)) (hE 48 (by kernel_rfl))) (cT (HB.out w)) (fun _ => rfl)) ?_
          refine FStepsW.cons (FStepW.plain rfl fun ac w hS hE => OpTo.pureG (v := .bool false) 50 rfl (by have h49 : ac.eval (.tmp 49) = .int .i64 (cmpF u v) := hE 49 (by kernel_rfl); have q := k1.out; unfold execOp; simp only [h49]; go_simp) rfl) ?_
          exact FStepsW.nil
        intro f wx hS hF
        obtain ⟨h50, -⟩ := hF
        replace h50 : f 50 = .bool false := h50
        simp only [setAll, List.setIfInBounds_toArray, List.set_cons_zero, List.set_cons_succ, h50]
        show wpList _ _ _ [] _ _
        -- END
        have HAr2 := Lib.hid (HAr.out.touch hS)
        have HT2 := Lib.hid (HT.out.trans (hS.mono (fun _ h _ => by cases h)))
        clear hS HAr HT HC1 HC2 HB
        go_wp2_with fail
        go_roundw
        case rel => exact ⟨i, k, hmi, hki, by omega, rfl, rfl, HAr2.out, HL.out, fun q h1 h2 => by
          have h3 := HS.out k q (by omega) h1 h2
          have h4 := HK.out
          omega, HT2.out⟩
        case measure => simp [intOf]; omega
    · obtain rfl : i = j := by omega
      have HAr := Lib.hid ha
      have HT := Lib.hid ht
      have HR := Lib.hid (srt_one_up HS.out (by omega) hjb (fun c h1 h2 => hlo c (by omega) h2) hhi)
      clear ha ht hlo hhi
      have m2 : IntKind.i64.wrap ((i : Int) - 1) = (i : Int) - 1 := IntWalk.i64_in _ (by omega)
      obtain ⟨w0, hw0⟩ : ∃ w0 : World, w0 = wr := ⟨_, rfl⟩
      rw [← hw0] at HAr HT ⊢
      clear hw0 wr
      go_wp2_with fail
      go_loopw [13] (fun vk wr => ∃ k : Nat, a ≤ k ∧ k + 1 ≤ i ∧ vk = .int .i64 (k : Int) ∧ Arr wr g off n (rot d a (a + 1) (k + 1)) ∧ In d (rot d a (a + 1) (k + 1)) a b n ∧ Touch [g] wA wr) (fun vk _ => i - (intOf vk).toNat)
      case atStart => exact ⟨a, by omega, by omega, rfl, by rw [rot_none2]; exact HAr.out, by rw [rot_none2]; exact In.refl _ _ _ _, HT.out⟩
      case round =>
        obtain ⟨k, hak, hki, rfl, ha, hin, ht⟩ := hrel
        clear HAr HT
        by_cases hlt : k + 1 < i
        · have t1 : decide ((k : Int) < (i : Int) - 1) = true := decide_eq_true (by omega)
          have m3 : IntKind.i64.wrap ((k : Int) + 1) = ((k + 1 : Nat) : Int) := by rw [IntWalk.i64_in _ (by omega)]; omega
          have c1 := ha.cell (show k < n by omega)
          have c2 := ha.cell (show k + 1 < n by omega)
          have f1 := ha.free (off + k)
          have f2 := ha.free (off + (k + 1))
          have HN := ha.swp (show k < n by omega) (show k + 1 < n by omega)
          rw [one_up d a k hak] at HN
          have hin2 := hin.trans (In.swp _ (a := a) (b := b) (n := n) (i := k) (j := k + 1) (by omega) (by omega) hb)
          rw [one_up d a k hak] at hin2
          have d1 := ha.set1 (off + k) (k + 1) (by omega) (show k + 1 < n by omega) (.float .f64 (rot d a (a + 1) (k + 1) (k + 1)))
          obtain ⟨p, hp⟩ : ∃ p, p = k + 1 := ⟨_, rfl⟩
          rw [← hp] at m3 c2 f2 HN d1 hin2 c1
          have hpn : p < n := by omega
          have hkn : k < n := by omega
          have hkp : k < p := by omega
          obtain ⟨u, hu⟩ : ∃ u, u = rot d a (a + 1) p k := ⟨_, rfl⟩
          obtain ⟨v, hv⟩ : ∃ v, v = rot d a (a + 1) p p := ⟨_, rfl⟩
          rw [← hu] at c1 HN
          rw [← hv] at c2 HN d1
          have HN2 := Lib.hid HN
          have HT := Lib.hid ht
          have HI := Lib.hid hin2
          have Hp := Lib.hid hp
          clear ha ht HN hp hu hv hin hin2 m2
          go_wp2_with fail
          go_region
          clear m3 c1 c2 f1 f2 d1
          go_wp2_with fail
          go_roundw
          case rel => exact ⟨p, by omega, by have := Hp.out; omega, by have := Hp.out; go_num, HN2.out.drew, HI.out, (touch_swp HT.out (.inl (by simp)) _ _ _ _).drew⟩
          case measure =>
            have := Hp.out
            simp [intOf]; omega
        · have t1 : decide ((k : Int) < (i : Int) - 1) = false := decide_eq_false (by omega)
          obtain rfl : i = k + 1 := by omega
          have HAr := Lib.hid ha
          have HIn := Lib.hid hin
          have HT := Lib.hid ht
          clear ha hin ht
          go_wp2_with fail
          exact bodyPost_ret (v := .tuple #[]) (by simp [results, Try.results43]) rfl ⟨rfl, _, HAr.out, HIn.out, HR.out, HT.out⟩
end Go.Proofs.Ytbpgbjhjnemaoaa
