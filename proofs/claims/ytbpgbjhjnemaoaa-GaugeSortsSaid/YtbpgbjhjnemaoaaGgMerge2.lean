/- The merge of one number from above: the walk. -/
import Derived.Test.YtbpgbjhjnemaoaaGgMerge1
namespace Go.Proofs.Ytbpgbjhjnemaoaa
open Go Go.RowKit
set_option maxRecDepth 100000 in
set_option maxHeartbeats 4000000 in
theorem merge_down (g off n c : Nat) (d : Nat → Nat) (a m : Nat) (ham : a + 1 < m) (hb : m + 1 ≤ n) (hn : n < 1000000) (wA : World) (h : Arr wA g off n d) (hs : Srt d a m) :
    Calls Try.prog 43 #[.slice (some ⟨g, off, none⟩) n c, .int .i64 (a : Int), .int .i64 (m : Int), .int .i64 ((m + 1 : Nat) : Int), cfV] wA fun e w' => e = .returned (.tuple #[]) ∧ ∃ d', Arr w' g off n d' ∧ In d d' a (m + 1) n ∧ Srt d' a (m + 1) ∧ Touch [g] wA w' := by
  have HA := Lib.hid h
  have HS := Lib.hid hs
  have HCm := Lib.hid (fun (a b : Nat) (ha : a < 18446744073709551616) (hb : b < 18446744073709551616) (W : World) => cmp_any a b ha hb W)
  have m1 : IntKind.i64.wrap (((m + 1 : Nat) : Int) - (m : Int)) = 1 := by rw [IntWalk.i64_in _ (by omega)]; omega
  have m0 : IntKind.i64.wrap ((m : Int) - (a : Int)) = ((m - a : Nat) : Int) := by rw [IntWalk.i64_in _ (by omega)]; omega
  obtain ⟨x, hx⟩ : ∃ x, x = m - a := ⟨_, rfl⟩
  have t0 : ((x : Int) == 1) = false := beq_eq_false_iff_ne.2 (by omega)
  rw [← hx] at m0
  clear h hs hx
  obtain ⟨b, hbm⟩ : ∃ b, b = m + 1 := ⟨_, rfl⟩
  have HM := Lib.hid hbm
  have hmb : m < b := by omega
  have hbn : b ≤ n := by omega
  have hbm1 : b ≤ m + 1 := by omega
  rw [← hbm] at m1 ⊢
  clear hbm
  go_enter Try.func43, Try.ntmps43
  go_wp2_with fail
  clear m0 t0 m1
  go_loopw [14, 15] (fun vi vj wr => ∃ i j : Nat, a ≤ i ∧ i ≤ j ∧ j ≤ m ∧ vi = .int .i64 (i : Int) ∧ vj = .int .i64 (j : Int) ∧ Arr wr g off n d ∧ (∀ k, a ≤ k → k < i → kf (d k) ≤ kf (d m)) ∧ (∀ k, j ≤ k → k < m → kf (d m) < kf (d k)) ∧ Touch [g] wA wr) (fun vi vj _ => (intOf vj).toNat - (intOf vi).toNat)
  case atStart => exact ⟨a, m, by omega, by omega, by omega, rfl, rfl, HA.out, fun k h1 h2 => by omega, fun k h1 h2 => by omega, Touch.refl _ _⟩
  case round =>
    obtain ⟨i, j, hai, hij, hjm, rfl, rfl, ha, hlo, hhi, ht⟩ := hrel
    clear HA
    by_cases hlt : i < j
    · go_upto_region 17 with fail
      obtain ⟨k, hk⟩ : ∃ k : Nat, ((i : Int) + (j : Int)) / 2 = (k : Int) := ⟨(i + j) / 2, by omega⟩
      rw [hk]
      have hki : i ≤ k := by omega
      have hkj : k < j := by omega
      clear hk
      have c1 := ha.cell (show m < n by omega)
      have c2 := ha.cell (show k < n by omega)
      have b1 := ha.bd (show m < n by omega)
      have b2 := ha.bd (show k < n by omega)
      obtain ⟨u, hu⟩ : ∃ u, u = d m := ⟨_, rfl⟩
      obtain ⟨v, hv⟩ : ∃ v, v = d k := ⟨_, rfl⟩
      rw [← hu] at c1 b1
      rw [← hv] at c2 b2
      have HC1 := Lib.hid (fun (W : World) (h : Touch [] wr W) => (h.cell (p := ⟨g, off + m, none⟩) ha.lt (by simp)).trans c1)
      have HC2 := Lib.hid (fun (W : World) (h : Touch [] wr W) => (h.cell (p := ⟨g, off + k, none⟩) ha.lt (by simp)).trans c2)
      have HB := Lib.hid (HCm.out u v b1 b2)
      have q1 := Lib.hid (show (0 : Int) ≤ (m : Int) ∧ (m : Int) < (n : Int) by omega)
      have q2 := Lib.hid (show (0 : Int) ≤ (k : Int) ∧ (k : Int) < (n : Int) by omega)
      have HAr := Lib.hid ha
      have HT := Lib.hid ht
      have HL := Lib.hid hlo
      have HH := Lib.hid hhi
      have Hu := Lib.hid hu
      have Hv := Lib.hid hv
      clear ha ht hlo hhi c1 c2 b1 b2 hu hv
      by_cases hcmp : kf u < kf v
      · have k1 := Lib.hid (show decide (cmpF u v < 0) = true by rw [cmpF_lt]; exact decide_eq_true hcmp)
        have HK := Lib.hid (show kf (d m) < kf (d k) by rw [← Hu.out, ← Hv.out]; exact hcmp)
        clear hcmp
        -- GF md17t
        refine wp_region_flowT (by kernel_rfl) 12 (lookW [(4, pu (isV (cfV))), (0, pu (isV (.slice (some ⟨g, off, none⟩) n c))), (2, pu (isV (.int .i64 (m : Int)))), (16, pu (isV (.int .i64 (k : Int)))), (92, pu (isV (cfV))), (93, pu (isV (.slice (some ⟨g, off, none⟩) n c))), (94, pu (isV (.int .i64 (m : Int)))), (95, pu (isV (.pointer (some ⟨g, off + m, none⟩)))), (96, pu (isV (.float .f64 u))), (97, pu (isV (.slice (some ⟨g, off, none⟩) n c))), (98, pu (isV (.int .i64 (k : Int)))), (99, pu (isV (.pointer (some ⟨g, off + k, none⟩)))), (100, pu (isV (.float .f64 v))), (101, pu (isV (.int .i64 (cmpF u v)))), (102, pu (isV (.bool true))), (103, pu (isV (.bool false)))]) [4, 0, 2, 16] [92, 93, 94, 95, 96, 97, 98, 99, 100, 101, 102, 103] [103] (by kernel_rfl) (by kernel_rfl) (by kernel_rfl) (by kernel_rfl) ⟨rfl, rfl, rfl, rfl, trivial⟩ ?_ ?_
        · refine FStepsW.cons (FStepW.plain rfl fun ac w hS hE => OpTo.moveG 92 rfl rfl (hE 4 (by kernel_rfl))) ?_
          refine FStepsW.cons (FStepW.plain rfl fun ac w hS hE => OpTo.moveG 93 rfl rfl (hE 0 (by kernel_rfl))) ?_
          refine FStepsW.cons (FStepW.plain rfl fun ac w hS hE => OpTo.moveG 94 rfl rfl (hE 2 (by kernel_rfl))) ?_
          refine FStepsW.cons (FStepW.plain rfl fun ac w hS hE => OpTo.pureG (v := .pointer (some ⟨g, off + m, none⟩)) 95 rfl (by have h93 : ac.eval (.tmp 93) = .slice (some ⟨g, off, none⟩) n c := hE 93 (by kernel_rfl); have h94 : ac.eval (.tmp 94) = .int .i64 (m : Int) := hE 94 (by kernel_rfl); have q := q1.out; unfold execOp; simp only [h93, h94]; go_simp) rfl) ?_
          refine FStepsW.cons (FStepW.plain rfl fun ac w hS hE => OpTo.pureG (v := .float .f64 u) 96 rfl (by have h95 : ac.eval (.tmp 95) = .pointer (some ⟨g, off + m, none⟩) := hE 95 (by kernel_rfl); have hcell : w.cell? ⟨g, off + m, none⟩ = some (.float .f64 u) := HC1.out w hS; unfold execOp; simp only [h95]; go_simp) rfl) ?_
          refine FStepsW.cons (FStepW.plain rfl fun ac w hS hE => OpTo.moveG 97 rfl rfl (hE 0 (by kernel_rfl))) ?_
          refine FStepsW.cons (FStepW.plain rfl fun ac w hS hE => OpTo.moveG 98 rfl rfl (hE 16 (by kernel_rfl))) ?_
          refine FStepsW.cons (FStepW.plain rfl fun ac w hS hE => OpTo.pureG (v := .pointer (some ⟨g, off + k, none⟩)) 99 rfl (by have h97 : ac.eval (.tmp 97) = .slice (some ⟨g, off, none⟩) n c := hE 97 (by kernel_rfl); have h98 : ac.eval (.tmp 98) = .int .i64 (k : Int) := hE 98 (by kernel_rfl); have q := q2.out; unfold execOp; simp only [h97, h98]; go_simp) rfl) ?_
          refine FStepsW.cons (FStepW.plain rfl fun ac w hS hE => OpTo.pureG (v := .float .f64 v) 100 rfl (by have h99 : ac.eval (.tmp 99) = .pointer (some ⟨g, off + k, none⟩) := hE 99 (by kernel_rfl); have hcell : w.cell? ⟨g, off + k, none⟩ = some (.float .f64 v) := HC2.out w hS; unfold execOp; simp only [h99]; go_simp) rfl) ?_
          refine FStepsW.cons (FStepW.plain rfl fun ac w hS hE => OpTo.callV #[.float .f64 u, .float .f64 v] 101 rfl rfl (hE 92 (by kernel_rfl)) Try.func37 (by kernel_rfl) (by kernel_rfl) (argE2 (hE 96 (by kernel_rfl)) (hE 100 (by kernel_rfl))) (cT (HB.out w)) (fun _ => rfl)) ?_
          refine FStepsW.cons (FStepW.plain rfl fun ac w hS hE => OpTo.pureG (v := .bool true) 102 rfl (by have h101 : ac.eval (.tmp 101) = .int .i64 (cmpF u v) := hE 101 (by kernel_rfl); have q := k1.out; unfold execOp; simp only [h101]; go_simp) rfl) ?_
          refine FStepsW.cons (FStepW.plain rfl fun ac w hS hE => OpTo.notG true 103 rfl rfl (hE 102 (by kernel_rfl)) rfl) ?_
          exact FStepsW.nil
        intro f wx hS hF
        obtain ⟨h103, -⟩ := hF
        replace h103 : f 103 = .bool false := h103
        simp only [setAll, List.setIfInBounds_toArray, List.set_cons_zero, List.set_cons_succ, h103]
        show wpList _ _ _ [] _ _
        -- END
        have HAr2 := Lib.hid (HAr.out.touch hS)
        have HT2 := Lib.hid (HT.out.trans (hS.mono (fun _ h _ => by cases h)))
        clear hS HAr HT HC1 HC2 HB
        go_wp2_with fail
        go_roundw
        case rel => exact ⟨i, k, hai, hki, by omega, rfl, rfl, HAr2.out, HL.out, fun q h1 h2 => by
          have h3 := HS.out k q (by omega) h1 (by omega)
          have h4 := HK.out
          omega, HT2.out⟩
        case measure => simp [intOf]; omega
      · have k1 := Lib.hid (show decide (cmpF u v < 0) = false by rw [cmpF_lt]; exact decide_eq_false hcmp)
        have HK := Lib.hid (show ¬ kf (d m) < kf (d k) by rw [← Hu.out, ← Hv.out]; exact hcmp)
        clear hcmp
        -- GF md17f
        refine wp_region_flowT (by kernel_rfl) 12 (lookW [(4, pu (isV (cfV))), (0, pu (isV (.slice (some ⟨g, off, none⟩) n c))), (2, pu (isV (.int .i64 (m : Int)))), (16, pu (isV (.int .i64 (k : Int)))), (92, pu (isV (cfV))), (93, pu (isV (.slice (some ⟨g, off, none⟩) n c))), (94, pu (isV (.int .i64 (m : Int)))), (95, pu (isV (.pointer (some ⟨g, off + m, none⟩)))), (96, pu (isV (.float .f64 u))), (97, pu (isV (.slice (some ⟨g, off, none⟩) n c))), (98, pu (isV (.int .i64 (k : Int)))), (99, pu (isV (.pointer (some ⟨g, off + k, none⟩)))), (100, pu (isV (.float .f64 v))), (101, pu (isV (.int .i64 (cmpF u v)))), (102, pu (isV (.bool false))), (103, pu (isV (.bool true)))]) [4, 0, 2, 16] [92, 93, 94, 95, 96, 97, 98, 99, 100, 101, 102, 103] [103] (by kernel_rfl) (by kernel_rfl) (by kernel_rfl) (by kernel_rfl) ⟨rfl, rfl, rfl, rfl, trivial⟩ ?_ ?_
        · refine FStepsW.cons (FStepW.plain rfl fun ac w hS hE => OpTo.moveG 92 rfl rfl (hE 4 (by kernel_rfl))) ?_
          refine FStepsW.cons (FStepW.plain rfl fun ac w hS hE => OpTo.moveG 93 rfl rfl (hE 0 (by kernel_rfl))) ?_
          refine FStepsW.cons (FStepW.plain rfl fun ac w hS hE => OpTo.moveG 94 rfl rfl (hE 2 (by kernel_rfl))) ?_
          refine FStepsW.cons (FStepW.plain rfl fun ac w hS hE => OpTo.pureG (v := .pointer (some ⟨g, off + m, none⟩)) 95 rfl (by have h93 : ac.eval (.tmp 93) = .slice (some ⟨g, off, none⟩) n c := hE 93 (by kernel_rfl); have h94 : ac.eval (.tmp 94) = .int .i64 (m : Int) := hE 94 (by kernel_rfl); have q := q1.out; unfold execOp; simp only [h93, h94]; go_simp) rfl) ?_
          refine FStepsW.cons (FStepW.plain rfl fun ac w hS hE => OpTo.pureG (v := .float .f64 u) 96 rfl (by have h95 : ac.eval (.tmp 95) = .pointer (some ⟨g, off + m, none⟩) := hE 95 (by kernel_rfl); have hcell : w.cell? ⟨g, off + m, none⟩ = some (.float .f64 u) := HC1.out w hS; unfold execOp; simp only [h95]; go_simp) rfl) ?_
          refine FStepsW.cons (FStepW.plain rfl fun ac w hS hE => OpTo.moveG 97 rfl rfl (hE 0 (by kernel_rfl))) ?_
          refine FStepsW.cons (FStepW.plain rfl fun ac w hS hE => OpTo.moveG 98 rfl rfl (hE 16 (by kernel_rfl))) ?_
          refine FStepsW.cons (FStepW.plain rfl fun ac w hS hE => OpTo.pureG (v := .pointer (some ⟨g, off + k, none⟩)) 99 rfl (by have h97 : ac.eval (.tmp 97) = .slice (some ⟨g, off, none⟩) n c := hE 97 (by kernel_rfl); have h98 : ac.eval (.tmp 98) = .int .i64 (k : Int) := hE 98 (by kernel_rfl); have q := q2.out; unfold execOp; simp only [h97, h98]; go_simp) rfl) ?_
          refine FStepsW.cons (FStepW.plain rfl fun ac w hS hE => OpTo.pureG (v := .float .f64 v) 100 rfl (by have h99 : ac.eval (.tmp 99) = .pointer (some ⟨g, off + k, none⟩) := hE 99 (by kernel_rfl); have hcell : w.cell? ⟨g, off + k, none⟩ = some (.float .f64 v) := HC2.out w hS; unfold execOp; simp only [h99]; go_simp) rfl) ?_
          refine FStepsW.cons (FStepW.plain rfl fun ac w hS hE => OpTo.callV #[.float .f64 u, .float .f64 v] 101 rfl rfl (hE 92 (by kernel_rfl)) Try.func37 (by kernel_rfl) (by kernel_rfl) (argE2 (hE 96 (by kernel_rfl)) (hE 100 (by kernel_rfl))) (cT (HB.out w)) (fun _ => rfl)) ?_
          refine FStepsW.cons (FStepW.plain rfl fun ac w hS hE => OpTo.pureG (v := .bool false) 102 rfl (by have h101 : ac.eval (.tmp 101) = .int .i64 (cmpF u v) := hE 101 (by kernel_rfl); have q := k1.out; unfold execOp; simp only [h101]; go_simp) rfl) ?_
          refine FStepsW.cons (FStepW.plain rfl fun ac w hS hE => OpTo.notG false 103 rfl rfl (hE 102 (by kernel_rfl)) rfl) ?_
          exact FStepsW.nil
        intro f wx hS hF
        obtain ⟨h103, -⟩ := hF
        replace h103 : f 103 = .bool true := h103
        simp only [setAll, List.setIfInBounds_toArray, List.set_cons_zero, List.set_cons_succ, h103]
        show wpList _ _ _ [] _ _
        -- END
        have HAr2 := Lib.hid (HAr.out.touch hS)
        have HT2 := Lib.hid (HT.out.trans (hS.mono (fun _ h _ => by cases h)))
        clear hS HAr HT HC1 HC2 HB
        go_wp2_with fail
        go_roundw
        case rel => exact ⟨k + 1, j, by omega, by omega, hjm, by go_num, rfl, HAr2.out, fun q h1 h2 => by
          have h3 := HS.out q k (by omega) (by omega) (by omega)
          have h4 := HK.out
          omega, HH.out, HT2.out⟩
        case measure => simp [intOf]; omega
    · obtain rfl : i = j := by omega
      have HAr := Lib.hid ha
      have HT := Lib.hid ht
      have HR := Lib.hid (srt_one_down HS.out hai hjm hlo hhi)
      clear ha ht hlo hhi
      obtain ⟨w0, hw0⟩ : ∃ w0 : World, w0 = wr := ⟨_, rfl⟩
      rw [← hw0] at HAr HT ⊢
      clear hw0 wr
      go_wp2_with fail
      go_loopw [17] (fun vk wr => ∃ k : Nat, i ≤ k ∧ k ≤ m ∧ vk = .int .i64 (k : Int) ∧ Arr wr g off n (rot d k m (m + 1)) ∧ In d (rot d k m (m + 1)) a (m + 1) n ∧ Touch [g] wA wr) (fun vk _ => (intOf vk).toNat)
      case atStart => exact ⟨m, by omega, by omega, rfl, by rw [rot_none1 d m (m + 1) (by omega)]; exact HAr.out, by rw [rot_none1 d m (m + 1) (by omega)]; exact In.refl _ _ _ _, HT.out⟩
      case round =>
        obtain ⟨k, hik, hkm, rfl, ha, hin, ht⟩ := hrel
        clear HAr HT
        by_cases hlt : i < k
        · have m3 : IntKind.i64.wrap ((k : Int) - 1) = ((k - 1 : Nat) : Int) := by rw [IntWalk.i64_in _ (by omega)]; omega
          have c1 := ha.cell (show k < n by omega)
          have c2 := ha.cell (show k - 1 < n by omega)
          have f1 := ha.free (off + k)
          have f2 := ha.free (off + (k - 1))
          have HN := ha.swp (show k < n by omega) (show k - 1 < n by omega)
          rw [one_down d m k hkm (by omega)] at HN
          have hin2 := hin.trans (In.swp _ (a := a) (b := m + 1) (n := n) (i := k) (j := k - 1) (by omega) (by omega) hb)
          rw [one_down d m k hkm (by omega)] at hin2
          have d1 := ha.set1 (off + k) (k - 1) (by omega) (show k - 1 < n by omega) (.float .f64 (rot d k m (m + 1) (k - 1)))
          obtain ⟨p, hp⟩ : ∃ p, p = k - 1 := ⟨_, rfl⟩
          rw [← hp] at m3 c2 f2 HN d1 hin2
          have hpn : p < n := by omega
          have hkn : k < n := by omega
          have hkp : p < k := by omega
          have q2 : (0 : Int) ≤ (p : Int) ∧ (p : Int) < (n : Int) := by omega
          obtain ⟨u, hu⟩ : ∃ u, u = rot d k m (m + 1) k := ⟨_, rfl⟩
          obtain ⟨v, hv⟩ : ∃ v, v = rot d k m (m + 1) p := ⟨_, rfl⟩
          rw [← hu] at c1 HN
          rw [← hv] at c2 HN d1
          have HN2 := Lib.hid HN
          have HT := Lib.hid ht
          have HI := Lib.hid hin2
          have Hp := Lib.hid hp
          clear ha ht HN hp hu hv hin hin2
          go_wp2_with fail
          go_region
          clear m3 c1 c2 f1 f2 d1 q2
          go_wp2_with fail
          go_roundw
          case rel => exact ⟨p, by have := Hp.out; omega, by omega, by rw [show (k : Int) - 1 = (p : Int) by have := Hp.out; omega], HN2.out.drew, HI.out, (touch_swp HT.out (.inl (by simp)) _ _ _ _).drew⟩
          case measure =>
            have := Hp.out
            simp [intOf]; omega
        · obtain rfl : i = k := by omega
          have HAr := Lib.hid ha
          have HIn := Lib.hid hin
          have HT := Lib.hid ht
          clear ha hin ht
          go_wp2_with fail
          exact bodyPost_ret (v := .tuple #[]) (by simp [results, Try.results43]) rfl ⟨rfl, _, HAr.out, HM.out ▸ HIn.out, HM.out ▸ HR.out, HT.out⟩
end Go.Proofs.Ytbpgbjhjnemaoaa
