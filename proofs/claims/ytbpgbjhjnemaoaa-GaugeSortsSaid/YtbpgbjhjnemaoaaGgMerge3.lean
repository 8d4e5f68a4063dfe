/- The merge: the walk. -/
import Derived.Test.YtbpgbjhjnemaoaaGgMerge2
namespace Go.Proofs.Ytbpgbjhjnemaoaa
open Go Go.RowKit
/-- What the merge of [a, m) and [m, b) leaves. -/
def MergeOk (g off n c : Nat) (N : Nat) : Prop := ∀ (a m b : Nat) (d : Nat → Nat) (wA : World), b ≤ a + N → a < m → m < b → b ≤ n → Arr wA g off n d → Srt d a m → Srt d m b →
  Calls Try.prog 43 #[.slice (some ⟨g, off, none⟩) n c, .int .i64 (a : Int), .int .i64 (m : Int), .int .i64 (b : Int), cfV] wA fun e w' => e = .returned (.tuple #[]) ∧ ∃ d', Arr w' g off n d' ∧ In d d' a b n ∧ Srt d' a b ∧ Touch [g] wA w'
set_option maxRecDepth 100000 in
set_option maxHeartbeats 8000000 in
theorem merge_gen1 (g off n c N : Nat) (hn : n < 1000000) (IH : MergeOk g off n c N) (a m b : Nat) (d : Nat → Nat) (wA : World) (hN : b ≤ a + (N + 1)) (ham : a + 1 < m) (hmb : m + 1 < b) (hb : b ≤ n) (h : Arr wA g off n d) (h1 : Srt d a m) (h2 : Srt d m b) (mid s0 r0 : Nat) (hmid : mid = (a + b) / 2)
    (hs1 : m > mid ∧ s0 = mid + m - b ∧ r0 = mid) :
    Calls Try.prog 43 #[.slice (some ⟨g, off, none⟩) n c, .int .i64 (a : Int), .int .i64 (m : Int), .int .i64 (b : Int), cfV] wA fun e w' => e = .returned (.tuple #[]) ∧ ∃ d', Arr w' g off n d' ∧ In d d' a b n ∧ Srt d' a b ∧ Touch [g] wA w' := by
  have hs : (m > mid ∧ s0 = mid + m - b ∧ r0 = mid) ∨ (m ≤ mid ∧ s0 = a ∧ r0 = m) := .inl hs1
  have HA := Lib.hid h
  have H1 := Lib.hid h1
  have H2 := Lib.hid h2
  have HI := Lib.hid IH
  have HCm := Lib.hid (fun (a b : Nat) (ha : a < 18446744073709551616) (hb : b < 18446744073709551616) (W : World) => cmp_any a b ha hb W)
  have HRo := Lib.hid (fun (d : Nat → Nat) (a m b : Nat) (h1 : a < m) (h2 : m < b) (h3 : b ≤ n) (W : World) (h : Arr W g off n d) => rotate_any g off n c d a m b cfV h1 h2 h3 hn W h)
  have Hs := Lib.hid hs
  have Hmid := Lib.hid hmid
  have m1 : IntKind.i64.wrap ((m : Int) - (a : Int)) = ((m - a : Nat) : Int) := by rw [IntWalk.i64_in _ (by omega)]; omega
  have m2 : IntKind.i64.wrap ((b : Int) - (m : Int)) = ((b - m : Nat) : Int) := by rw [IntWalk.i64_in _ (by omega)]; omega
  obtain ⟨x, hx⟩ : ∃ x, x = m - a := ⟨_, rfl⟩
  obtain ⟨y, hy⟩ : ∃ y, y = b - m := ⟨_, rfl⟩
  have t1 : ((x : Int) == 1) = false := beq_eq_false_iff_ne.2 (by omega)
  have t2 : ((y : Int) == 1) = false := beq_eq_false_iff_ne.2 (by omega)
  have t4 : ((m : Int) - (a : Int) == 1) = false := beq_eq_false_iff_ne.2 (by omega)
  have t5 : ((b : Int) - (m : Int) == 1) = false := beq_eq_false_iff_ne.2 (by omega)
  rw [← hx] at m1
  rw [← hy] at m2
  have hm2 : ((a : Int) + (b : Int)) / 2 = (mid : Int) := by omega
  have Hm2 := Lib.hid hm2
  have ham2 : a < mid := by omega
  have hmidb : mid < b := by omega
  have hp0 : (mid : Int) + (m : Int) - 1 = ((mid + m - 1 : Nat) : Int) := by omega
  have Hp0 := Lib.hid hp0
  have hnum : a ≤ s0 ∧ s0 ≤ r0 ∧ r0 ≤ m ∧ r0 ≤ mid ∧ mid + m ≤ s0 + b := by rcases hs with h | h <;> omega
  obtain ⟨hn1, hn2, hn3, hn4, hn5⟩ := hnum
  have hge : a + b ≤ 2 * mid + 1 := by omega
  clear h h1 h2 IH hs hmid hx hy hm2 hp0
  obtain ⟨t3, e0, e1⟩ := hs1
  all_goals
    go_enter Try.func43, Try.ntmps43
    go_upto_region 25 with fail
    rw [Hm2.out]
    go_wp2_with fail
    clear m1 m2 t1 t2 t4 t5
    obtain ⟨p, hp⟩ : ∃ p, p = mid + m - 1 := ⟨_, rfl⟩
    rw [show (mid : Int) + (m : Int) - 1 = (p : Int) by omega]
    go_loopw [20, 21] (fun vi vj wr => ∃ i j : Nat, s0 ≤ i ∧ i ≤ j ∧ j ≤ r0 ∧ vi = .int .i64 (i : Int) ∧ vj = .int .i64 (j : Int) ∧ Arr wr g off n d ∧ (∀ k, s0 ≤ k → k < i → kf (d k) ≤ kf (d (p - k))) ∧ (∀ k, j ≤ k → k < r0 → kf (d (p - k)) < kf (d k)) ∧ Touch [g] wA wr) (fun vi vj _ => (intOf vj).toNat - (intOf vi).toNat)
    case atStart => exact ⟨s0, r0, by omega, by omega, by omega, congrArg (Value.int .i64) (by omega), congrArg (Value.int .i64) (by omega), HA.out, fun k h1 h2 => by omega, fun k h1 h2 => by omega, Touch.refl _ _⟩
    case round =>
      obtain ⟨i, j, hsi, hij, hjr, rfl, rfl, ha, hlo, hhi, ht⟩ := hrel
      clear HA
      by_cases hlt : i < j
      · go_upto_region 35 with fail
        obtain ⟨k, hk⟩ : ∃ k : Nat, ((i : Int) + (j : Int)) / 2 = (k : Int) := ⟨(i + j) / 2, by omega⟩
        rw [hk]
        have hki : i ≤ k := by omega
        have hkj : k < j := by omega
        clear hk
        obtain ⟨pp, hpp⟩ : ∃ pp, pp = p - k := ⟨_, rfl⟩
        have hppn : pp < n := by omega
        have c1 := ha.cell (show pp < n by omega)
        have c2 := ha.cell (show k < n by omega)
        have b1 := ha.bd (show pp < n by omega)
        have b2 := ha.bd (show k < n by omega)
        obtain ⟨u, hu⟩ : ∃ u, u = d pp := ⟨_, rfl⟩
        obtain ⟨v, hv⟩ : ∃ v, v = d k := ⟨_, rfl⟩
        rw [← hu] at c1 b1
        rw [← hv] at c2 b2
        have HC1 := Lib.hid (fun (W : World) (h : Touch [] wr W) => (h.cell (p := ⟨g, off + pp, none⟩) ha.lt (by simp)).trans c1)
        have HC2 := Lib.hid (fun (W : World) (h : Touch [] wr W) => (h.cell (p := ⟨g, off + k, none⟩) ha.lt (by simp)).trans c2)
        have HB := Lib.hid (HCm.out u v b1 b2)
        have m3 := Lib.hid (show IntKind.i64.wrap ((p : Int) - (k : Int)) = (pp : Int) by rw [IntWalk.i64_in _ (by omega)]; omega)
        have q1 := Lib.hid (show (0 : Int) ≤ (pp : Int) ∧ (pp : Int) < (n : Int) by omega)
        have q2 := Lib.hid (show (0 : Int) ≤ (k : Int) ∧ (k : Int) < (n : Int) by omega)
        have HAr := Lib.hid ha
        have HT := Lib.hid ht
        have HL := Lib.hid hlo
        have HH := Lib.hid hhi
        have Hu := Lib.hid hu
        have Hv := Lib.hid hv
        have Hpp := Lib.hid hpp
        have Hp := Lib.hid hp
        have He0 := Lib.hid e0
        have He1 := Lib.hid e1
        clear ha ht hlo hhi c1 c2 b1 b2 hu hv hpp hp e0 e1
        by_cases hcmp : kf u < kf v
        · have k1 := Lib.hid (show decide (cmpF u v < 0) = true by rw [cmpF_lt]; exact decide_eq_true hcmp)
          have HK := Lib.hid (show kf (d (p - k)) < kf (d k) by rw [← Hpp.out, ← Hu.out, ← Hv.out]; exact hcmp)
          clear hcmp
          -- GF mg35t
          refine wp_region_flowT (by kernel_rfl) 14 (lookW [(4, pu (isV (cfV))), (0, pu (isV (.slice (some ⟨g, off, none⟩) n c))), (22, pu (isV (.int .i64 (p : Int)))), (23, pu (isV (.int .i64 (k : Int)))), (158, pu (isV (cfV))), (159, pu (isV (.slice (some ⟨g, off, none⟩) n c))), (160, pu (isV (.int .i64 (p : Int)))), (161, pu (isV (.int .i64 (k : Int)))), (162, pu (isV (.int .i64 (pp : Int)))), (163, pu (isV (.pointer (some ⟨g, off + pp, none⟩)))), (164, pu (isV (.float .f64 u))), (165, pu (isV (.slice (some ⟨g, off, none⟩) n c))), (166, pu (isV (.int .i64 (k : Int)))), (167, pu (isV (.pointer (some ⟨g, off + k, none⟩)))), (168, pu (isV (.float .f64 v))), (169, pu (isV (.int .i64 (cmpF u v)))), (170, pu (isV (.bool true))), (171, pu (isV (.bool false)))]) [4, 0, 22, 23] [158, 159, 160, 161, 162, 163, 164, 165, 166, 167, 168, 169, 170, 171] [171] (by kernel_rfl) (by kernel_rfl) (by kernel_rfl) (by kernel_rfl) ⟨rfl, rfl, rfl, rfl, trivial⟩ ?_ ?_
          · refine FStepsW.cons (FStepW.plain rfl fun ac w hS hE => OpTo.moveG 158 rfl rfl (hE 4 (by kernel_rfl))) ?_
            refine FStepsW.cons (FStepW.plain rfl fun ac w hS hE => OpTo.moveG 159 rfl rfl (hE 0 (by kernel_rfl))) ?_
            refine FStepsW.cons (FStepW.plain rfl fun ac w hS hE => OpTo.moveG 160 rfl rfl (hE 22 (by kernel_rfl))) ?_
            refine FStepsW.cons (FStepW.plain rfl fun ac w hS hE => OpTo.moveG 161 rfl rfl (hE 23 (by kernel_rfl))) ?_
            refine FStepsW.cons (FStepW.plain rfl fun ac w hS hE => OpTo.pureG (v := .int .i64 (pp : Int)) 162 rfl (by have h160 : ac.eval (.tmp 160) = .int .i64 (p : Int) := hE 160 (by kernel_rfl); have h161 : ac.eval (.tmp 161) = .int .i64 (k : Int) := hE 161 (by kernel_rfl); have q := m3.out; unfold execOp; simp only [h160, h161]; go_simp) rfl) ?_
            refine FStepsW.cons (FStepW.plain rfl fun ac w hS hE => OpTo.pureG (v := .pointer (some ⟨g, off + pp, none⟩)) 163 rfl (by have h159 : ac.eval (.tmp 159) = .slice (some ⟨g, off, none⟩) n c := hE 159 (by kernel_rfl); have h162 : ac.eval (.tmp 162) = .int .i64 (pp : Int) := hE 162 (by kernel_rfl); have q := q1.out; unfold execOp; simp only [h159, h162]; go_simp) rfl) ?_
            refine FStepsW.cons (FStepW.plain rfl fun ac w hS hE => OpTo.pureG (v := .float .f64 u) 164 rfl (by have h163 : ac.eval (.tmp 163) = .pointer (some ⟨g, off + pp, none⟩) := hE 163 (by kernel_rfl); have hcell : w.cell? ⟨g, off + pp, none⟩ = some (.float .f64 u) := HC1.out w hS; unfold execOp; simp only [h163]; go_simp) rfl) ?_
            refine FStepsW.cons (FStepW.plain rfl fun ac w hS hE => OpTo.moveG 165 rfl rfl (hE 0 (by kernel_rfl))) ?_
            refine FStepsW.cons (FStepW.plain rfl fun ac w hS hE => OpTo.moveG 166 rfl rfl (hE 23 (by kernel_rfl))) ?_
            refine FStepsW.cons (FStepW.plain rfl fun ac w hS hE => OpTo.pureG (v := .pointer (some ⟨g, off + k, none⟩)) 167 rfl (by have h165 : ac.eval (.tmp 165) = .slice (some ⟨g, off, none⟩) n c := hE 165 (by kernel_rfl); have h166 : ac.eval (.tmp 166) = .int .i64 (k : Int) := hE 166 (by kernel_rfl); have q := q2.out; unfold execOp; simp only [h165, h166]; go_simp) rfl) ?_
            refine FStepsW.cons (FStepW.plain rfl fun ac w hS hE => OpTo.pureG (v := .float .f64 v) 168 rfl (by have h167 : ac.eval (.tmp 167) = .pointer (some ⟨g, off + k, none⟩) := hE 167 (by kernel_rfl); have hcell : w.cell? ⟨g, off + k, none⟩ = some (.float .f64 v) := HC2.out w hS; unfold execOp; simp only [h167]; go_simp) rfl) ?_
            refine FStepsW.cons (FStepW.plain rfl fun ac w hS hE => OpTo.callV #[.float .f64 u, .float .f64 v] 169 rfl rfl (hE 158 (by kernel_rfl)) Try.func37 (by kernel_rfl) (by kernel_rfl) (argE2 (hE 164 (by kernel_rfl)) (hE 168 (by kernel_rfl))) (cT (HB.out w)) (fun _ => rfl)) ?_
            refine FStepsW.cons (FStepW.plain rfl fun ac w hS hE => OpTo.pureG (v := .bool true) 170 rfl (by have h169 : ac.eval (.tmp 169) = .int .i64 (cmpF u v) := hE 169 (by kernel_rfl); have q := k1.out; unfold execOp; simp only [h169]; go_simp) rfl) ?_
            refine FStepsW.cons (FStepW.plain rfl fun ac w hS hE => OpTo.notG true 171 rfl rfl (hE 170 (by kernel_rfl)) rfl) ?_
            exact FStepsW.nil
          intro f wx hS hF
          obtain ⟨h171, -⟩ := hF
          replace h171 : f 171 = .bool false := h171
          simp only [setAll, List.setIfInBounds_toArray, List.set_cons_zero, List.set_cons_succ, h171]
          show wpList _ _ _ [] _ _
          -- END
          have HAr2 := Lib.hid (HAr.out.touch hS)
          have HT2 := Lib.hid (HT.out.trans (hS.mono (fun _ h _ => by cases h)))
          clear hS HAr HT HC1 HC2 HB
          go_wp2_with fail
          go_roundw
          case rel => exact ⟨i, k, hsi, hki, by omega, rfl, rfl, HAr2.out, HL.out, fun q h1 h2 => by
            have e0 := He0.out
            have e1 := He1.out
            have e2 := Hp.out
            have h3 := H1.out k q (by omega) h1 (by omega)
            have h5 := H2.out (p - q) (p - k) (by omega) (by omega) (by omega)
            have h4 := HK.out
            omega, HT2.out⟩
          case measure => simp [intOf]; omega
        · have k1 := Lib.hid (show decide (cmpF u v < 0) = false by rw [cmpF_lt]; exact decide_eq_false hcmp)
          have HK := Lib.hid (show ¬ kf (d (p - k)) < kf (d k) by rw [← Hpp.out, ← Hu.out, ← Hv.out]; exact hcmp)
          clear hcmp
          -- GF mg35f
          refine wp_region_flowT (by kernel_rfl) 14 (lookW [(4, pu (isV (cfV))), (0, pu (isV (.slice (some ⟨g, off, none⟩) n c))), (22, pu (isV (.int .i64 (p : Int)))), (23, pu (isV (.int .i64 (k : Int)))), (158, pu (isV (cfV))), (159, pu (isV (.slice (some ⟨g, off, none⟩) n c))), (160, pu (isV (.int .i64 (p : Int)))), (161, pu (isV (.int .i64 (k : Int)))), (162, pu (isV (.int .i64 (pp : Int)))), (163, pu (isV (.pointer (some ⟨g, off + pp, none⟩)))), (164, pu (isV (.float .f64 u))), (165, pu (isV (.slice (some ⟨g, off, none⟩) n c))), (166, pu (isV (.int .i64 (k : Int)))), (167, pu (isV (.pointer (some ⟨g, off + k, none⟩)))), (168, pu (isV (.float .f64 v))), (169, pu (isV (.int .i64 (cmpF u v)))), (170, pu (isV (.bool false))), (171, pu (isV (.bool true)))]) [4, 0, 22, 23] [158, 159, 160, 161, 162, 163, 164, 165, 166, 167, 168, 169, 170, 171] [171] (by kernel_rfl) (by kernel_rfl) (by kernel_rfl) (by kernel_rfl) ⟨rfl, rfl, rfl, rfl, trivial⟩ ?_ ?_
          · refine FStepsW.cons (FStepW.plain rfl fun ac w hS hE => OpTo.moveG 158 rfl rfl (hE 4 (by kernel_rfl))) ?_
            refine FStepsW.cons (FStepW.plain rfl fun ac w hS hE => OpTo.moveG 159 rfl rfl (hE 0 (by kernel_rfl))) ?_
            refine FStepsW.cons (FStepW.plain rfl fun ac w hS hE => OpTo.moveG 160 rfl rfl (hE 22 (by kernel_rfl))) ?_
            refine FStepsW.cons (FStepW.plain rfl fun ac w hS hE => OpTo.moveG 161 rfl rfl (hE 23 (by kernel_rfl))) ?_
            refine FStepsW.cons (FStepW.plain rfl fun ac w hS hE => OpTo.pureG (v := .int .i64 (pp : Int)) 162 rfl (by have h160 : ac.eval (.tmp 160) = .int .i64 (p : Int) := hE 160 (by kernel_rfl); have h161 : ac.eval (.tmp 161) = .int .i64 (k : Int) := hE 161 (by kernel_rfl); have q := m3.out; unfold execOp; simp only [h160, h161]; go_simp) rfl) ?_
            refine FStepsW.cons (FStepW.plain rfl fun ac w hS hE => OpTo.pureG (v := .pointer (some ⟨g, off + pp, none⟩)) 163 rfl (by have h159 : ac.eval (.tmp 159) = .slice (some ⟨g, off, none⟩) n c := hE 159 (by kernel_rfl); have h162 : ac.eval (.tmp 162) = .int .i64 (pp : Int) := hE 162 (by kernel_rfl); have q := q1.out; unfold execOp; simp only [h159, h162]; go_simp) rfl) ?_
            refine FStepsW.cons (FStepW.plain rfl fun ac w hS hE => OpTo.pureG (v := .float .f64 u) 164 rfl (by have h163 : ac.eval (.tmp 163) = .pointer (some ⟨g, off + pp, none⟩) := hE 163 (by kernel_rfl); have hcell : w.cell? ⟨g, off + pp, none⟩ = some (.float .f64 u) := HC1.out w hS; unfold execOp; simp only [h163]; go_simp) rfl) ?_
            refine FStepsW.cons (FStepW.plain rfl fun ac w hS hE => OpTo.moveG 165 rfl rfl (hE 0 (by kernel_rfl))) ?_
            refine FStepsW.cons (FStepW.plain rfl fun ac w hS hE => OpTo.moveG 166 rfl rfl (hE 23 (by kernel_rfl))) ?_
            refine FStepsW.cons (FStepW.plain rfl fun ac w hS hE => OpTo.pureG (v := .pointer (some ⟨g, off + k, none⟩)) 167 rfl (by have h165 : ac.eval (.tmp 165) = .slice (some ⟨g, off, none⟩) n c := hE 165 (by kernel_rfl); have h166 : ac.eval (.tmp 166) = .int .i64 (k : Int) := hE 166 (by kernel_rfl); have q := q2.out; unfold execOp; simp only [h165, h166]; go_simp) rfl) ?_
            refine FStepsW.cons (FStepW.plain rfl fun ac w hS hE => OpTo.pureG (v := .float .f64 v) 168 rfl (by have h167 : ac.eval (.tmp 167) = .pointer (some ⟨g, off + k, none⟩) := hE 167 (by kernel_rfl); have hcell : w.cell? ⟨g, off + k, none⟩ = some (.float .f64 v) := HC2.out w hS; unfold execOp; simp only [h167]; go_simp) rfl) ?_
            refine FStepsW.cons (FStepW.plain rfl fun ac w hS hE => OpTo.callV #[.float .f64 u, .float .f64 v] 169 rfl rfl (hE 158 (by kernel_rfl)) Try.func37 (by kernel_rfl) (by kernel_rfl) (argE2 (hE 164 (by kernel_rfl)) (hE 168 (by kernel_rfl))) (cT (HB.out w)) (fun _ => rfl)) ?_
            refine FStepsW.cons (FStepW.plain rfl fun ac w hS hE => OpTo.pureG (v := .bool false) 170 rfl (by have h169 : ac.eval (.tmp 169) = .int .i64 (cmpF u v) := hE 169 (by kernel_rfl); have q := k1.out; unfold execOp; simp only [h169]; go_simp) rfl) ?_
            refine FStepsW.cons (FStepW.plain rfl fun ac w hS hE => OpTo.notG false 171 rfl rfl (hE 170 (by kernel_rfl)) rfl) ?_
            exact FStepsW.nil
          intro f wx hS hF
          obtain ⟨h171, -⟩ := hF
          replace h171 : f 171 = .bool true := h171
          simp only [setAll, List.setIfInBounds_toArray, List.set_cons_zero, List.set_cons_succ, h171]
          show wpList _ _ _ [] _ _
          -- END
          have HAr2 := Lib.hid (HAr.out.touch hS)
          have HT2 := Lib.hid (HT.out.trans (hS.mono (fun _ h _ => by cases h)))
          clear hS HAr HT HC1 HC2 HB
          go_wp2_with fail
          go_roundw
          case rel => exact ⟨k + 1, j, by omega, by omega, hjr, by go_num, rfl, HAr2.out, fun q h1 h2 => by
            have e0 := He0.out
            have e1 := He1.out
            have e2 := Hp.out
            have h3 := H1.out q k (by omega) (by omega) (by omega)
            have h5 := H2.out (p - k) (p - q) (by omega) (by omega) (by omega)
            have h4 := HK.out
            omega, HH.out, HT2.out⟩
          case measure => simp [intOf]; omega
      · obtain rfl : i = j := by omega
        obtain ⟨r1, r2, r3, r4, r5⟩ := merge_rot (d := d) (a := a) (m := m) (b := b) (s0 := s0) (r0 := r0) (s := i) (by omega) (by omega) H1.out H2.out (by rw [← Hmid.out]; exact Hs.out) hsi hjr ⟨fun c h1 h2 => by rw [← Hmid.out, ← hp]; exact hlo c h1 h2, fun c h1 h2 => by rw [← Hmid.out, ← hp]; exact hhi c h1 h2⟩
        rw [← Hmid.out] at r1 r2 r3 r4 r5
        obtain ⟨e, he⟩ : ∃ e, e = mid + m - i := ⟨_, rfl⟩
        rw [← he] at r1 r2 r3 r4 r5
        have hmie : i ≤ m ∧ m ≤ e ∧ e ≤ b ∧ a ≤ i ∧ i ≤ mid ∧ mid ≤ e := by omega
        obtain ⟨z1, z2, z3, z4, z5, z6⟩ := hmie
        have m6 : (mid : Int) + (m : Int) - (i : Int) = (e : Int) := by omega
        have HM6 := Lib.hid m6
        have HAr := Lib.hid ha
        have HT := Lib.hid ht
        obtain ⟨f, hf⟩ : ∃ f, f = rot d i m e := ⟨_, rfl⟩
        rw [← hf] at r1 r2 r3 r4 r5
        have HF := Lib.hid hf
        have R1 := Lib.hid r1
        have R2 := Lib.hid r2
        have R3 := Lib.hid r3
        have R4 := Lib.hid r4
        have R5 := Lib.hid r5
        clear ha ht hlo hhi r1 r2 r3 r4 r5 he hp e0 e1 hf m6
        go_upto_region 39 with fail
        rw [HM6.out]
        rcases Nat.lt_or_ge i m with c1 | c1
        all_goals try (exfalso; omega)
        all_goals
          go_upto_if 185 with fail
          go_cut [] (fun wx => Arr wx g off n f ∧ In d f a b n ∧ Touch [g] wA wx)
          case first =>
            rcases Nat.lt_or_ge m e with c2 | c2
            all_goals try (exfalso; omega)
            all_goals first
            | (have cc : i < m ∧ m < e := ⟨c1, c2⟩
               have HAr2 := Lib.hid (fun W h => HRo.out d i m e cc.1 cc.2 (by omega) W h)
               clear cc
               go_wp2_with fail
               refine (HAr2.out _ HAr.out).mono ?_
               rintro e2 w1 ⟨rfl, ha, hi2, ht⟩
               rw [← HF.out] at ha hi2
               have HA3 := Lib.hid ha
               have HI2 := Lib.hid (hi2.wide (a' := a) (b' := b) (by omega) (by omega))
               have HT2 := Lib.hid (HT.out.trans ht)
               clear ha hi2 ht
               go_wp2_with fail
               go_meet
               exact ⟨HA3.out, HI2.out, HT2.out⟩)
            | (have hfd : f = d := by
                 rw [HF.out]
                 by_cases c3 : i < m
                 · rw [show e = m by omega]; exact rot_none2 _ _ _
                 · rw [show i = m by omega]; exact rot_none1 _ _ _ z2
               have HFD := Lib.hid hfd
               clear hfd
               go_wp2_with fail
               go_meet
               exact ⟨HFD.out ▸ HAr.out, HFD.out ▸ In.refl _ _ _ _, HT.out⟩)
          case rest =>
            obtain ⟨ha, hin, ht⟩ := hcut
            clear HAr HT c1
            have HAr := Lib.hid ha
            have HIn := Lib.hid hin
            have HT := Lib.hid ht
            clear ha hin ht
            rcases Nat.lt_or_ge a i with c1 | c1
            all_goals try (exfalso; omega)
            all_goals
              go_upto_if 199 with fail
              go_cut [] (fun wx => ∃ f2, Arr wx g off n f2 ∧ In f f2 a mid n ∧ Srt f2 a mid ∧ Touch [g] wA wx)
              case first =>
                rcases Nat.lt_or_ge i mid with c2 | c2
                all_goals try (exfalso; omega)
                all_goals first
                | (have cc : a < i ∧ i < mid := ⟨c1, c2⟩
                   have HM2 := Lib.hid (fun W h => HI.out a i mid f W (by omega) cc.1 cc.2 (by omega) h R1.out R2.out)
                   clear cc
                   go_wp2_with fail
                   refine (HM2.out _ HAr.out).mono ?_
                   rintro e2 w1 ⟨rfl, f2, ha, hi2, hs2, ht⟩
                   have HAr2 := Lib.hid ha
                   have HI2 := Lib.hid hi2
                   have HS2 := Lib.hid hs2
                   have HT2 := Lib.hid (HT.out.trans ht)
                   clear ha hi2 ht hs2
                   go_wp2_with fail
                   go_meet
                   exact ⟨f2, HAr2.out, HI2.out, HS2.out, HT2.out⟩)
                | (have hS1 := Lib.hid (show Srt f a mid by
                     by_cases c3 : a < i
                     · rw [show mid = i by omega]; exact R1.out
                     · rw [show a = i by omega]; exact R2.out)
                   go_wp2_with fail
                   go_meet
                   exact ⟨f, HAr.out, In.refl _ _ _ _, hS1.out, HT.out⟩)
              case rest =>
                obtain ⟨f2, ha, hi2, hs2, ht⟩ := hcut
                clear HAr HT c1
                have HAr := Lib.hid ha
                have HI2 := Lib.hid hi2
                have HS2 := Lib.hid hs2
                have HT := Lib.hid ht
                have R3' := Lib.hid (srt_congr R3.out fun k h1 _ => hi2.out k (.inr h1))
                have R4' := Lib.hid (srt_congr R4.out fun k h1 _ => hi2.out k (.inr (by omega)))
                clear ha hi2 hs2 ht
                rcases Nat.lt_or_ge mid e with c1 | c1
                all_goals try (exfalso; omega)
                all_goals
                  rcases Nat.lt_or_ge e b with c2 | c2
                  all_goals try (exfalso; omega)
                  all_goals first
                  | (have cc : mid < e ∧ e < b := ⟨c1, c2⟩
                     have HM2 := Lib.hid (fun W h => HI.out mid e b f2 W (by omega) cc.1 cc.2 (by omega) h R3'.out R4'.out)
                     clear cc
                     go_wp2_with fail
                     refine (HM2.out _ HAr.out).mono ?_
                     rintro e2 w1 ⟨rfl, f3, ha, hi3, hs3, ht⟩
                     have hb3 := merge_both (by omega) (by omega) R5.out HI2.out HS2.out hi3 hs3
                     have HAr2 := Lib.hid ha
                     have HB3 := Lib.hid hb3
                     have HT2 := Lib.hid (HT.out.trans ht)
                     clear ha hi3 hs3 ht hb3
                     go_wp2_with fail
                     go_end0
                     exact ⟨rfl, f3, HAr2.out, HIn.out.trans HB3.out.1, HB3.out.2, HT2.out⟩)
                  | (have hS3 : Srt f2 mid b := by
                       by_cases c3 : mid < e
                       · rw [show b = e by omega]; exact R3'.out
                       · rw [show mid = e by omega]; exact R4'.out
                     have HB3 := Lib.hid (merge_both (by omega) (by omega) R5.out HI2.out HS2.out (In.refl _ mid b n) hS3)
                     clear hS3
                     go_wp2_with fail
                     go_end0
                     exact ⟨rfl, f2, HAr.out, HIn.out.trans HB3.out.1, HB3.out.2, HT.out⟩)
set_option maxRecDepth 100000 in
set_option maxHeartbeats 8000000 in
theorem merge_gen2 (g off n c N : Nat) (hn : n < 1000000) (IH : MergeOk g off n c N) (a m b : Nat) (d : Nat → Nat) (wA : World) (hN : b ≤ a + (N + 1)) (ham : a + 1 < m) (hmb : m + 1 < b) (hb : b ≤ n) (h : Arr wA g off n d) (h1 : Srt d a m) (h2 : Srt d m b) (mid s0 r0 : Nat) (hmid : mid = (a + b) / 2)
    (hs1 : m ≤ mid ∧ s0 = a ∧ r0 = m) :
    Calls Try.prog 43 #[.slice (some ⟨g, off, none⟩) n c, .int .i64 (a : Int), .int .i64 (m : Int), .int .i64 (b : Int), cfV] wA fun e w' => e = .returned (.tuple #[]) ∧ ∃ d', Arr w' g off n d' ∧ In d d' a b n ∧ Srt d' a b ∧ Touch [g] wA w' := by
  have hs : (m > mid ∧ s0 = mid + m - b ∧ r0 = mid) ∨ (m ≤ mid ∧ s0 = a ∧ r0 = m) := .inr hs1
  have HA := Lib.hid h
  have H1 := Lib.hid h1
  have H2 := Lib.hid h2
  have HI := Lib.hid IH
  have HCm := Lib.hid (fun (a b : Nat) (ha : a < 18446744073709551616) (hb : b < 18446744073709551616) (W : World) => cmp_any a b ha hb W)
  have HRo := Lib.hid (fun (d : Nat → Nat) (a m b : Nat) (h1 : a < m) (h2 : m < b) (h3 : b ≤ n) (W : World) (h : Arr W g off n d) => rotate_any g off n c d a m b cfV h1 h2 h3 hn W h)
  have Hs := Lib.hid hs
  have Hmid := Lib.hid hmid
  have m1 : IntKind.i64.wrap ((m : Int) - (a : Int)) = ((m - a : Nat) : Int) := by rw [IntWalk.i64_in _ (by omega)]; omega
  have m2 : IntKind.i64.wrap ((b : Int) - (m : Int)) = ((b - m : Nat) : Int) := by rw [IntWalk.i64_in _ (by omega)]; omega
  obtain ⟨x, hx⟩ : ∃ x, x = m - a := ⟨_, rfl⟩
  obtain ⟨y, hy⟩ : ∃ y, y = b - m := ⟨_, rfl⟩
  have t1 : ((x : Int) == 1) = false := beq_eq_false_iff_ne.2 (by omega)
  have t2 : ((y : Int) == 1) = false := beq_eq_false_iff_ne.2 (by omega)
  have t4 : ((m : Int) - (a : Int) == 1) = false := beq_eq_false_iff_ne.2 (by omega)
  have t5 : ((b : Int) - (m : Int) == 1) = false := beq_eq_false_iff_ne.2 (by omega)
  rw [← hx] at m1
  rw [← hy] at m2
  have hm2 : ((a : Int) + (b : Int)) / 2 = (mid : Int) := by omega
  have Hm2 := Lib.hid hm2
  have ham2 : a < mid := by omega
  have hmidb : mid < b := by omega
  have hp0 : (mid : Int) + (m : Int) - 1 = ((mid + m - 1 : Nat) : Int) := by omega
  have Hp0 := Lib.hid hp0
  have hnum : a ≤ s0 ∧ s0 ≤ r0 ∧ r0 ≤ m ∧ r0 ≤ mid ∧ mid + m ≤ s0 + b := by rcases hs with h | h <;> omega
  obtain ⟨hn1, hn2, hn3, hn4, hn5⟩ := hnum
  have hge : a + b ≤ 2 * mid + 1 := by omega
  clear h h1 h2 IH hs hmid hx hy hm2 hp0
  obtain ⟨t3, e0, e1⟩ := hs1
  all_goals
    go_enter Try.func43, Try.ntmps43
    go_upto_region 25 with fail
    rw [Hm2.out]
    go_wp2_with fail
    clear m1 m2 t1 t2 t4 t5
    obtain ⟨p, hp⟩ : ∃ p, p = mid + m - 1 := ⟨_, rfl⟩
    rw [show (mid : Int) + (m : Int) - 1 = (p : Int) by omega]
    go_loopw [20, 21] (fun vi vj wr => ∃ i j : Nat, s0 ≤ i ∧ i ≤ j ∧ j ≤ r0 ∧ vi = .int .i64 (i : Int) ∧ vj = .int .i64 (j : Int) ∧ Arr wr g off n d ∧ (∀ k, s0 ≤ k → k < i → kf (d k) ≤ kf (d (p - k))) ∧ (∀ k, j ≤ k → k < r0 → kf (d (p - k)) < kf (d k)) ∧ Touch [g] wA wr) (fun vi vj _ => (intOf vj).toNat - (intOf vi).toNat)
    case atStart => exact ⟨s0, r0, by omega, by omega, by omega, congrArg (Value.int .i64) (by omega), congrArg (Value.int .i64) (by omega), HA.out, fun k h1 h2 => by omega, fun k h1 h2 => by omega, Touch.refl _ _⟩
    case round =>
      obtain ⟨i, j, hsi, hij, hjr, rfl, rfl, ha, hlo, hhi, ht⟩ := hrel
      clear HA
      by_cases hlt : i < j
      · go_upto_region 35 with fail
        obtain ⟨k, hk⟩ : ∃ k : Nat, ((i : Int) + (j : Int)) / 2 = (k : Int) := ⟨(i + j) / 2, by omega⟩
        rw [hk]
        have hki : i ≤ k := by omega
        have hkj : k < j := by omega
        clear hk
        obtain ⟨pp, hpp⟩ : ∃ pp, pp = p - k := ⟨_, rfl⟩
        have hppn : pp < n := by omega
        have c1 := ha.cell (show pp < n by omega)
        have c2 := ha.cell (show k < n by omega)
        have b1 := ha.bd (show pp < n by omega)
        have b2 := ha.bd (show k < n by omega)
        obtain ⟨u, hu⟩ : ∃ u, u = d pp := ⟨_, rfl⟩
        obtain ⟨v, hv⟩ : ∃ v, v = d k := ⟨_, rfl⟩
        rw [← hu] at c1 b1
        rw [← hv] at c2 b2
        have HC1 := Lib.hid (fun (W : World) (h : Touch [] wr W) => (h.cell (p := ⟨g, off + pp, none⟩) ha.lt (by simp)).trans c1)
        have HC2 := Lib.hid (fun (W : World) (h : Touch [] wr W) => (h.cell (p := ⟨g, off + k, none⟩) ha.lt (by simp)).trans c2)
        have HB := Lib.hid (HCm.out u v b1 b2)
        have m3 := Lib.hid (show IntKind.i64.wrap ((p : Int) - (k : Int)) = (pp : Int) by rw [IntWalk.i64_in _ (by omega)]; omega)
        have q1 := Lib.hid (show (0 : Int) ≤ (pp : Int) ∧ (pp : Int) < (n : Int) by omega)
        have q2 := Lib.hid (show (0 : Int) ≤ (k : Int) ∧ (k : Int) < (n : Int) by omega)
        have HAr := Lib.hid ha
        have HT := Lib.hid ht
        have HL := Lib.hid hlo
        have HH := Lib.hid hhi
        have Hu := Lib.hid hu
        have Hv := Lib.hid hv
        have Hpp := Lib.hid hpp
        have Hp := Lib.hid hp
        have He0 := Lib.hid e0
        have He1 := Lib.hid e1
        clear ha ht hlo hhi c1 c2 b1 b2 hu hv hpp hp e0 e1
        by_cases hcmp : kf u < kf v
        · have k1 := Lib.hid (show decide (cmpF u v < 0) = true by rw [cmpF_lt]; exact decide_eq_true hcmp)
          have HK := Lib.hid (show kf (d (p - k)) < kf (d k) by rw [← Hpp.out, ← Hu.out, ← Hv.out]; exact hcmp)
          clear hcmp
          -- GF mg35t
          refine wp_region_flowT (by kernel_rfl) 14 (lookW [(4, pu (isV (cfV))), (0, pu (isV (.slice (some ⟨g, off, none⟩) n c))), (22, pu (isV (.int .i64 (p : Int)))), (23, pu (isV (.int .i64 (k : Int)))), (158, pu (isV (cfV))), (159, pu (isV (.slice (some ⟨g, off, none⟩) n c))), (160, pu (isV (.int .i64 (p : Int)))), (161, pu (isV (.int .i64 (k : Int)))), (162, pu (isV (.int .i64 (pp : Int)))), (163, pu (isV (.pointer (some ⟨g, off + pp, none⟩)))), (164, pu (isV (.float .f64 u))), (165, pu (isV (.slice (some ⟨g, off, none⟩) n c))), (166, pu (isV (.int .i64 (k : Int)))), (167, pu (isV (.pointer (some ⟨g, off + k, none⟩)))), (168, pu (isV (.float .f64 v))), (169, pu (isV (.int .i64 (cmpF u v)))), (170, pu (isV (.bool true))), (171, pu (isV (.bool false)))]) [4, 0, 22, 23] [158, 159, 160, 161, 162, 163, 164, 165, 166, 167, 168, 169, 170, 171] [171] (by kernel_rfl) (by kernel_rfl) (by kernel_rfl) (by kernel_rfl) ⟨rfl, rfl, rfl, rfl, trivial⟩ ?_ ?_
          · refine FStepsW.cons (FStepW.plain rfl fun ac w hS hE => OpTo.moveG 158 rfl rfl (hE 4 (by kernel_rfl))) ?_
            refine FStepsW.cons (FStepW.plain rfl fun ac w hS hE => OpTo.moveG 159 rfl rfl (hE 0 (by kernel_rfl))) ?_
            refine FStepsW.cons (FStepW.plain rfl fun ac w hS hE => OpTo.moveG 160 rfl rfl (hE 22 (by kernel_rfl))) ?_
            refine FStepsW.cons (FStepW.plain rfl fun ac w hS hE => OpTo.moveG 161 rfl rfl (hE 23 (by kernel_rfl))) ?_
            refine FStepsW.cons (FStepW.plain rfl fun ac w hS hE => OpTo.pureG (v := .int .i64 (pp : Int)) 162 rfl (by have h160 : ac.eval (.tmp 160) = .int .i64 (p : Int) := hE 160 (by kernel_rfl); have h161 : ac.eval (.tmp 161) = .int .i64 (k : Int) := hE 161 (by kernel_rfl); have q := m3.out; unfold execOp; simp only [h160, h161]; go_simp) rfl) ?_
            refine FStepsW.cons (FStepW.plain rfl fun ac w hS hE => OpTo.pureG (v := .pointer (some ⟨g, off + pp, none⟩)) 163 rfl (by have h159 : ac.eval (.tmp 159) = .slice (some ⟨g, off, none⟩) n c := hE 159 (by kernel_rfl); have h162 : ac.eval (.tmp 162) = .int .i64 (pp : Int) := hE 162 (by kernel_rfl); have q := q1.out; unfold execOp; simp only [h159, h162]; go_simp) rfl) ?_
            refine FStepsW.cons (FStepW.plain rfl fun ac w hS hE => OpTo.pureG (v := .float .f64 u) 164 rfl (by have h163 : ac.eval (.tmp 163) = .pointer (some ⟨g, off + pp, none⟩) := hE 163 (by kernel_rfl); have hcell : w.cell? ⟨g, off + pp, none⟩ = some (.float .f64 u) := HC1.out w hS; unfold execOp; simp only [h163]; go_simp) rfl) ?_
            refine FStepsW.cons (FStepW.plain rfl fun ac w hS hE => OpTo.moveG 165 rfl rfl (hE 0 (by kernel_rfl))) ?_
            refine FStepsW.cons (FStepW.plain rfl fun ac w hS hE => OpTo.moveG 166 rfl rfl (hE 23 (by kernel_rfl))) ?_
            refine FStepsW.cons (FStepW.plain rfl fun ac w hS hE => OpTo.pureG (v := .pointer (some ⟨g, off + k, none⟩)) 167 rfl (by have h165 : ac.eval (.tmp 165) = .slice (some ⟨g, off, none⟩) n c := hE 165 (by kernel_rfl); have h166 : ac.eval (.tmp 166) = .int .i64 (k : Int) := hE 166 (by kernel_rfl); have q := q2.out; unfold execOp; simp only [h165, h166]; go_simp) rfl) ?_
            refine FStepsW.cons (FStepW.plain rfl fun ac w hS hE => OpTo.pureG (v := .float .f64 v) 168 rfl (by have h167 : ac.eval (.tmp 167) = .pointer (some ⟨g, off + k, none⟩) := hE 167 (by kernel_rfl); have hcell : w.cell? ⟨g, off + k, none⟩ = some (.float .f64 v) := HC2.out w hS; unfold execOp; simp only [h167]; go_simp) rfl) ?_
            refine FStepsW.cons (FStepW.plain rfl fun ac w hS hE => OpTo.callV #[.float .f64 u, .float .f64 v] 169 rfl rfl (hE 158 (by kernel_rfl)) Try.func37 (by kernel_rfl) (by kernel_rfl) (argE2 (hE 164 (by kernel_rfl)) (hE 168 (by kernel_rfl))) (cT (HB.out w)) (fun _ => rfl)) ?_
            refine FStepsW.cons (FStepW.plain rfl fun ac w hS hE => OpTo.pureG (v := .bool true) 170 rfl (by have h169 : ac.eval (.tmp 169) = .int .i64 (cmpF u v) := hE 169 (by kernel_rfl); have q := k1.out; unfold execOp; simp only [h169]; go_simp) rfl) ?_
            refine FStepsW.cons (FStepW.plain rfl fun ac w hS hE => OpTo.notG true 171 rfl rfl (hE 170 (by kernel_rfl)) rfl) ?_
            exact FStepsW.nil
          intro f wx hS hF
          obtain ⟨h171, -⟩ := hF
          replace h171 : f 171 = .bool false := h171
          simp only [setAll, List.setIfInBounds_toArray, List.set_cons_zero, List.set_cons_succ, h171]
          show wpList _ _ _ [] _ _
          -- END
          have HAr2 := Lib.hid (HAr.out.touch hS)
          have HT2 := Lib.hid (HT.out.trans (hS.mono (fun _ h _ => by cases h)))
          clear hS HAr HT HC1 HC2 HB
          go_wp2_with fail
          go_roundw
          case rel => exact ⟨i, k, hsi, hki, by omega, rfl, rfl, HAr2.out, HL.out, fun q h1 h2 => by
            have e0 := He0.out
            have e1 := He1.out
            have e2 := Hp.out
            have h3 := H1.out k q (by omega) h1 (by omega)
            have h5 := H2.out (p - q) (p - k) (by omega) (by omega) (by omega)
            have h4 := HK.out
            omega, HT2.out⟩
          case measure => simp [intOf]; omega
        · have k1 := Lib.hid (show decide (cmpF u v < 0) = false by rw [cmpF_lt]; exact decide_eq_false hcmp)
          have HK := Lib.hid (show ¬ kf (d (p - k)) < kf (d k) by rw [← Hpp.out, ← Hu.out, ← Hv.out]; exact hcmp)
          clear hcmp
          -- GF mg35f
          refine wp_region_flowT (by kernel_rfl) 14 (lookW [(4, pu (isV (cfV))), (0, pu (isV (.slice (some ⟨g, off, none⟩) n c))), (22, pu (isV (.int .i64 (p : Int)))), (23, pu (isV (.int .i64 (k : Int)))), (158, pu (isV (cfV))), (159, pu (isV (.slice (some ⟨g, off, none⟩) n c))), (160, pu (isV (.int .i64 (p : Int)))), (161, pu (isV (.int .i64 (k : Int)))), (162, pu (isV (.int .i64 (pp : Int)))), (163, pu (isV (.pointer (some ⟨g, off + pp, none⟩)))), (164, pu (isV (.float .f64 u))), (165, pu (isV (.slice (some ⟨g, off, none⟩) n c))), (166, pu (isV (.int .i64 (k : Int)))), (167, pu (isV (.pointer (some ⟨g, off + k, none⟩)))), (168, pu (isV (.float .f64 v))), (169, pu (isV (.int .i64 (cmpF u v)))), (170, pu (isV (.bool false))), (171, pu (isV (.bool true)))]) [4, 0, 22, 23] [158, 159, 160, 161, 162, 163, 164, 165, 166, 167, 168, 169, 170, 171] [171] (by kernel_rfl) (by kernel_rfl) (by kernel_rfl) (by kernel_rfl) ⟨rfl, rfl, rfl, rfl, trivial⟩ ?_ ?_
          · refine FStepsW.cons (FStepW.plain rfl fun ac w hS hE => OpTo.moveG 158 rfl rfl (hE 4 (by kernel_rfl))) ?_
            refine FStepsW.cons (FStepW.plain rfl fun ac w hS hE => OpTo.moveG 159 rfl rfl (hE 0 (by kernel_rfl))) ?_
            refine FStepsW.cons (FStepW.plain rfl fun ac w hS hE => OpTo.moveG 160 rfl rfl (hE 22 (by kernel_rfl))) ?_
            refine FStepsW.cons (FStepW.plain rfl fun ac w hS hE => OpTo.moveG 161 rfl rfl (hE 23 (by kernel_rfl))) ?_
            refine FStepsW.cons (FStepW.plain rfl fun ac w hS hE => OpTo.pureG (v := .int .i64 (pp : Int)) 162 rfl (by have h160 : ac.eval (.tmp 160) = .int .i64 (p : Int) := hE 160 (by kernel_rfl); have h161 : ac.eval (.tmp 161) = .int .i64 (k : Int) := hE 161 (by kernel_rfl); have q := m3.out; unfold execOp; simp only [h160, h161]; go_simp) rfl) ?_
            refine FStepsW.cons (FStepW.plain rfl fun ac w hS hE => OpTo.pureG (v := .pointer (some ⟨g, off + pp, none⟩)) 163 rfl (by have h159 : ac.eval (.tmp 159) = .slice (some ⟨g, off, none⟩) n c := hE 159 (by kernel_rfl); have h162 : ac.eval (.tmp 162) = .int .i64 (pp : Int) := hE 162 (by kernel_rfl); have q := q1.out; unfold execOp; simp only [h159, h162]; go_simp) rfl) ?_
            refine FStepsW.cons (FStepW.plain rfl fun ac w hS hE => OpTo.pureG (v := .float .f64 u) 164 rfl (by have h163 : ac.eval (.tmp 163) = .pointer (some ⟨g, off + pp, none⟩) := hE 163 (by kernel_rfl); have hcell : w.cell? ⟨g, off + pp, none⟩ = some (.float .f64 u) := HC1.out w hS; unfold execOp; simp only [h163]; go_simp) rfl) ?_
            refine FStepsW.cons (FStepW.plain rfl fun ac w hS hE => OpTo.moveG 165 rfl rfl (hE 0 (by kernel_rfl))) ?_
            refine FStepsW.cons (FStepW.plain rfl fun ac w hS hE => OpTo.moveG 166 rfl rfl (hE 23 (by kernel_rfl))) ?_
            refine FStepsW.cons (FStepW.plain rfl fun ac w hS hE => OpTo.pureG (v := .pointer (some ⟨g, off + k, none⟩)) 167 rfl (by have h165 : ac.eval (.tmp 165) = .slice (some ⟨g, off, none⟩) n c := hE 165 (by kernel_rfl); have h166 : ac.eval (.tmp 166) = .int .i64 (k : Int) := hE 166 (by kernel_rfl); have q := q2.out; unfold execOp; simp only [h165, h166]; go_simp) rfl) ?_
            refine FStepsW.cons (FStepW.plain rfl fun ac w hS hE => OpTo.pureG (v := .float .f64 v) 168 rfl (by have h167 : ac.eval (.tmp 167) = .pointer (some ⟨g, off + k, none⟩) := hE 167 (by kernel_rfl); have hcell : w.cell? ⟨g, off + k, none⟩ = some (.float .f64 v) := HC2.out w hS; unfold execOp; simp only [h167]; go_simp) rfl) ?_
            refine FStepsW.cons (FStepW.plain rfl fun ac w hS hE => OpTo.callV #[.float .f64 u, .float .f64 v] 169 rfl rfl (hE 158 (by kernel_rfl)) Try.func37 (by kernel_rfl) (by kernel_rfl) (argE2 (hE 164 (by kernel_rfl)) (hE 168 (by kernel_rfl))) (cT (HB.out w)) (fun _ => rfl)) ?_
            refine FStepsW.cons (FStepW.plain rfl fun ac w hS hE => OpTo.pureG (v := .bool false) 170 rfl (by have h169 : ac.eval (.tmp 169) = .int .i64 (cmpF u v) := hE 169 (by kernel_rfl); have q := k1.out; unfold execOp; simp only [h169]; go_simp) rfl) ?_
            refine FStepsW.cons (FStepW.plain rfl fun ac w hS hE => OpTo.notG false 171 rfl rfl (hE 170 (by kernel_rfl)) rfl) ?_
            exact FStepsW.nil
          intro f wx hS hF
          obtain ⟨h171, -⟩ := hF
          replace h171 : f 171 = .bool true := h171
          simp only [setAll, List.setIfInBounds_toArray, List.set_cons_zero, List.set_cons_succ, h171]
          show wpList _ _ _ [] _ _
          -- END
          have HAr2 := Lib.hid (HAr.out.touch hS)
          have HT2 := Lib.hid (HT.out.trans (hS.mono (fun _ h _ => by cases h)))
          clear hS HAr HT HC1 HC2 HB
          go_wp2_with fail
          go_roundw
          case rel => exact ⟨k + 1, j, by omega, by omega, hjr, by go_num, rfl, HAr2.out, fun q h1 h2 => by
            have e0 := He0.out
            have e1 := He1.out
            have e2 := Hp.out
            have h3 := H1.out q k (by omega) (by omega) (by omega)
            have h5 := H2.out (p - k) (p - q) (by omega) (by omega) (by omega)
            have h4 := HK.out
            omega, HH.out, HT2.out⟩
          case measure => simp [intOf]; omega
      · obtain rfl : i = j := by omega
        obtain ⟨r1, r2, r3, r4, r5⟩ := merge_rot (d := d) (a := a) (m := m) (b := b) (s0 := s0) (r0 := r0) (s := i) (by omega) (by omega) H1.out H2.out (by rw [← Hmid.out]; exact Hs.out) hsi hjr ⟨fun c h1 h2 => by rw [← Hmid.out, ← hp]; exact hlo c h1 h2, fun c h1 h2 => by rw [← Hmid.out, ← hp]; exact hhi c h1 h2⟩
        rw [← Hmid.out] at r1 r2 r3 r4 r5
        obtain ⟨e, he⟩ : ∃ e, e = mid + m - i := ⟨_, rfl⟩
        rw [← he] at r1 r2 r3 r4 r5
        have hmie : i ≤ m ∧ m ≤ e ∧ e ≤ b ∧ a ≤ i ∧ i ≤ mid ∧ mid ≤ e := by omega
        obtain ⟨z1, z2, z3, z4, z5, z6⟩ := hmie
        have m6 : (mid : Int) + (m : Int) - (i : Int) = (e : Int) := by omega
        have HM6 := Lib.hid m6
        have HAr := Lib.hid ha
        have HT := Lib.hid ht
        obtain ⟨f, hf⟩ : ∃ f, f = rot d i m e := ⟨_, rfl⟩
        rw [← hf] at r1 r2 r3 r4 r5
        have HF := Lib.hid hf
        have R1 := Lib.hid r1
        have R2 := Lib.hid r2
        have R3 := Lib.hid r3
        have R4 := Lib.hid r4
        have R5 := Lib.hid r5
        clear ha ht hlo hhi r1 r2 r3 r4 r5 he hp e0 e1 hf m6
        go_upto_region 39 with fail
        rw [HM6.out]
        rcases Nat.lt_or_ge i m with c1 | c1
        all_goals try (exfalso; omega)
        all_goals
          go_upto_if 185 with fail
          go_cut [] (fun wx => Arr wx g off n f ∧ In d f a b n ∧ Touch [g] wA wx)
          case first =>
            rcases Nat.lt_or_ge m e with c2 | c2
            all_goals try (exfalso; omega)
            all_goals first
            | (have cc : i < m ∧ m < e := ⟨c1, c2⟩
               have HAr2 := Lib.hid (fun W h => HRo.out d i m e cc.1 cc.2 (by omega) W h)
               clear cc
               go_wp2_with fail
               refine (HAr2.out _ HAr.out).mono ?_
               rintro e2 w1 ⟨rfl, ha, hi2, ht⟩
               rw [← HF.out] at ha hi2
               have HA3 := Lib.hid ha
               have HI2 := Lib.hid (hi2.wide (a' := a) (b' := b) (by omega) (by omega))
               have HT2 := Lib.hid (HT.out.trans ht)
               clear ha hi2 ht
               go_wp2_with fail
               go_meet
               exact ⟨HA3.out, HI2.out, HT2.out⟩)
            | (have hfd : f = d := by
                 rw [HF.out]
                 by_cases c3 : i < m
                 · rw [show e = m by omega]; exact rot_none2 _ _ _
                 · rw [show i = m by omega]; exact rot_none1 _ _ _ z2
               have HFD := Lib.hid hfd
               clear hfd
               go_wp2_with fail
               go_meet
               exact ⟨HFD.out ▸ HAr.out, HFD.out ▸ In.refl _ _ _ _, HT.out⟩)
          case rest =>
            obtain ⟨ha, hin, ht⟩ := hcut
            clear HAr HT c1
            have HAr := Lib.hid ha
            have HIn := Lib.hid hin
            have HT := Lib.hid ht
            clear ha hin ht
            rcases Nat.lt_or_ge a i with c1 | c1
            all_goals try (exfalso; omega)
            all_goals
              go_upto_if 199 with fail
              go_cut [] (fun wx => ∃ f2, Arr wx g off n f2 ∧ In f f2 a mid n ∧ Srt f2 a mid ∧ Touch [g] wA wx)
              case first =>
                rcases Nat.lt_or_ge i mid with c2 | c2
                all_goals try (exfalso; omega)
                all_goals first
                | (have cc : a < i ∧ i < mid := ⟨c1, c2⟩
                   have HM2 := Lib.hid (fun W h => HI.out a i mid f W (by omega) cc.1 cc.2 (by omega) h R1.out R2.out)
                   clear cc
                   go_wp2_with fail
                   refine (HM2.out _ HAr.out).mono ?_
                   rintro e2 w1 ⟨rfl, f2, ha, hi2, hs2, ht⟩
                   have HAr2 := Lib.hid ha
                   have HI2 := Lib.hid hi2
                   have HS2 := Lib.hid hs2
                   have HT2 := Lib.hid (HT.out.trans ht)
                   clear ha hi2 ht hs2
                   go_wp2_with fail
                   go_meet
                   exact ⟨f2, HAr2.out, HI2.out, HS2.out, HT2.out⟩)
                | (have hS1 := Lib.hid (show Srt f a mid by
                     by_cases c3 : a < i
                     · rw [show mid = i by omega]; exact R1.out
                     · rw [show a = i by omega]; exact R2.out)
                   go_wp2_with fail
                   go_meet
                   exact ⟨f, HAr.out, In.refl _ _ _ _, hS1.out, HT.out⟩)
              case rest =>
                obtain ⟨f2, ha, hi2, hs2, ht⟩ := hcut
                clear HAr HT c1
                have HAr := Lib.hid ha
                have HI2 := Lib.hid hi2
                have HS2 := Lib.hid hs2
                have HT := Lib.hid ht
                have R3' := Lib.hid (srt_congr R3.out fun k h1 _ => hi2.out k (.inr h1))
                have R4' := Lib.hid (srt_congr R4.out fun k h1 _ => hi2.out k (.inr (by omega)))
                clear ha hi2 hs2 ht
                rcases Nat.lt_or_ge mid e with c1 | c1
                all_goals try (exfalso; omega)
                all_goals
                  rcases Nat.lt_or_ge e b with c2 | c2
                  all_goals try (exfalso; omega)
                  all_goals first
                  | (have cc : mid < e ∧ e < b := ⟨c1, c2⟩
                     have HM2 := Lib.hid (fun W h => HI.out mid e b f2 W (by omega) cc.1 cc.2 (by omega) h R3'.out R4'.out)
                     clear cc
                     go_wp2_with fail
                     refine (HM2.out _ HAr.out).mono ?_
                     rintro e2 w1 ⟨rfl, f3, ha, hi3, hs3, ht⟩
                     have hb3 := merge_both (by omega) (by omega) R5.out HI2.out HS2.out hi3 hs3
                     have HAr2 := Lib.hid ha
                     have HB3 := Lib.hid hb3
                     have HT2 := Lib.hid (HT.out.trans ht)
                     clear ha hi3 hs3 ht hb3
                     go_wp2_with fail
                     go_end0
                     exact ⟨rfl, f3, HAr2.out, HIn.out.trans HB3.out.1, HB3.out.2, HT2.out⟩)
                  | (have hS3 : Srt f2 mid b := by
                       by_cases c3 : mid < e
                       · rw [show b = e by omega]; exact R3'.out
                       · rw [show mid = e by omega]; exact R4'.out
                     have HB3 := Lib.hid (merge_both (by omega) (by omega) R5.out HI2.out HS2.out (In.refl _ mid b n) hS3)
                     clear hS3
                     go_wp2_with fail
                     go_end0
                     exact ⟨rfl, f2, HAr.out, HIn.out.trans HB3.out.1, HB3.out.2, HT.out⟩)
theorem merge_any (g off n c : Nat) (hn : n < 1000000) : ∀ N, MergeOk g off n c N := by
  intro N
  induction N with
  | zero => intro a m b d wA h1 h2 h3; omega
  | succ N ih =>
    intro a m b d wA hN ham hmb hb h h1 h2
    by_cases c1 : m = a + 1
    · subst c1
      exact merge_up g off n c d a b hmb hb hn wA h h2
    · by_cases c2 : b = m + 1
      · subst c2
        exact merge_down g off n c d a m (by omega) hb hn wA h h1
      · rcases Nat.lt_or_ge ((a + b) / 2) m with h3 | h3
        · exact merge_gen1 g off n c N hn ih a m b d wA hN (by omega) (by omega) hb h h1 h2 _ _ _ rfl ⟨h3, rfl, rfl⟩
        · exact merge_gen2 g off n c N hn ih a m b d wA hN (by omega) (by omega) hb h h1 h2 _ _ _ rfl ⟨h3, rfl, rfl⟩
end Go.Proofs.Ytbpgbjhjnemaoaa
