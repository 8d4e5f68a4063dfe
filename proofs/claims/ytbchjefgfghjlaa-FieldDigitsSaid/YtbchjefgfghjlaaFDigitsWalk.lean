/- syngraphlaw04.FieldDigits: the walk. -/
import Derived.Test.YtbchjefgfghjlaaElem
import Derived.Test.YtbchjefgfghjlaaFLaws
import Derived.Test.YtbchjefgfghjlaaFixed04
import Derived.Test.YtbchjefgfghjlaaSeqFlow
import Derived.Test.YtbchjefgfghjlaaFixed04a
import Derived.Test.YtbchjefgfghjlaaOps
namespace Go.Proofs.Ytbchjefgfghjlaa
open Go.RowKit
def dSmall : ByteArray := ⟨#[0, 0, 0, 0, 0, 0, 0, 0, 0, 0, 0, 0, 0, 0, 0, 0, 0, 0, 0, 0, 0, 0, 0, 0, 0, 0, 0, 0, 0, 0, 0]⟩
def dOnes : ByteArray := ⟨#[255, 255, 255, 255, 255, 255, 255, 255, 255, 255, 255, 255, 255, 255, 255, 255, 255, 255, 255, 255, 255, 255, 255, 255, 255, 255, 255, 255, 255, 255, 127]⟩
theorem dig_facts : ∀ k : Nat, k < 19 → (ofC (strOfNums [237 + (k : Int)] ++ dOnes) = 3 ∧ ofN (strOfNums [237 + (k : Int)] ++ dOnes) = 0 ∧ cutN (strOfNums [237 + (k : Int)] ++ dOnes) = k) ∧
    ((toS k).toList == (strOfNums [(k : Int)] ++ dSmall).toList) = true ∧ (strOfNums [237 + (k : Int)]).size + dOnes.size ≤ 9223372036854775807 ∧ (strOfNums [(k : Int)]).size + dSmall.size ≤ 9223372036854775807 := by decide +kernel
theorem toS_31 {X : Nat} (h : X < PP) : (bl (toS X)).getD 31 0 ≤ 127 := by
  rw [bl_toS]
  have h1 : (byN 32 X).getD 31 0 = X / 2 ^ (8 * 31) % 256 := by
    have := byN_at 32 X 31 (by omega)
    rw [List.getD_eq_getElem?_getD, this]
    rfl
  rw [h1]
  unfold PP at h
  omega
set_option maxRecDepth 100000 in
set_option maxHeartbeats 4000000 in
theorem fdig_walk (hfix : FixedOk) (s : ByteArray) (m : Nat) (hm : m < 256) (w : World) : Calls Try.prog 9 #[.string s, .int .u8 (m : Int)] w fun e w' => e = .returned (.bool true) ∧ Touch [] w w' := by
  obtain ⟨X, hX⟩ : ∃ n, n = cutN s := ⟨_, rfl⟩
  have HX := Lib.hid hX.symm
  have lX : X < PP := hX ▸ cutN_lt _
  clear hX
  have S32 := Lib.hid (toS_size X)
  have L22 := Lib.hid (show 31 < (toS X).size by rw [S32.out]; decide)
  have hc := toS_31 lX
  obtain ⟨c, K22⟩ : ∃ c : Nat, Hid ((bl (toS X)).getD 31 0 = c) := ⟨_, Lib.hid rfl⟩
  rw [K22.out] at hc
  have K23 := Lib.hid (show decide ((127 : Int) < (c : Int)) = false from decide_eq_false (by omega))
  have K19 := Lib.hid (show decide (((toS X).size : Int) = 32) = true from decide_eq_true (by rw [S32.out]; rfl))
  clear hc lX
  obtain ⟨k, hk, hk19⟩ : ∃ k : Nat, (m : Int) % 19 = (k : Int) ∧ k < 19 := ⟨m % 19, by omega, by omega⟩
  have HK := Lib.hid hk
  clear hk
  obtain ⟨⟨hA1, hA2, hA3⟩, hB, hC, hD⟩ := dig_facts k hk19
  have K46 := Lib.hid hB
  have K32 := Lib.hid hC
  have K45 := Lib.hid hD
  have K28 := Lib.hid (show IntKind.u8.wrap (237 + (k : Int)) = 237 + (k : Int) from IntWalk.u8_in _ (by omega))
  clear hB hC hD hk19
  obtain ⟨A, hA⟩ : ∃ A, strOfNums [237 + (k : Int)] ++ dOnes = A := ⟨_, rfl⟩
  rw [hA] at hA1 hA2 hA3
  have HA := Lib.hid hA
  have A1 := Lib.hid hA1
  have A2 := Lib.hid hA2
  have A3 := Lib.hid hA3
  clear hA hA1 hA2 hA3
  have HT := Lib.hid (Touch.refl [] w)
  go_enter Try.func9, Try.ntmps9
  go_wp2_with fail
  refine (cut_anyE s _).mono ?_
  rintro e wp1 ⟨p, hp, hfp, rfl, ht⟩
  have Rp := Lib.hid hp
  have Fp := Lib.hid (show fe p = X by rw [hfp, HX.out])
  replace HT := Lib.hid (HT.out.trans ht)
  clear hp hfp ht
  go_upto_region 2 with (first | (refine wpList_storeE rfl (.tmp 5) (.tmp 14) rfl (wp1.heap.size) rfl p rfl 24 _ Rp.out.len rfl (z1_0 wp1) ?_))
  obtain ⟨bp, bt⟩ := boxed1 wp1 p
  obtain ⟨w2, hw2⟩ : ∃ w2, w2 = ((wp1.alloc (.cells #[.int .i64 0, .int .i64 0, .int .i64 0, .int .i64 0, .int .i64 0, .int .i64 0, .int .i64 0, .int .i64 0, .int .i64 0, .int .i64 0, .int .i64 0, .int .i64 0, .int .i64 0, .int .i64 0, .int .i64 0, .int .i64 0] 24)).setRow (wp1.heap.size) (cellsZ p).toArray) := ⟨_, rfl⟩
  obtain ⟨g2, hg⟩ : ∃ g2, g2 = wp1.heap.size := ⟨_, rfl⟩
  rw [← hw2, ← hg] at bp
  rw [← hw2] at bt ⊢
  rw [← hg]
  replace HT := Lib.hid (HT.out.trans bt)
  have Bp := Lib.hid bp
  have ilp := Lib.hid (infoL Rp.out)
  clear bp bt hw2 hg
  go_wp2_with (first | (refine wpList_loadE rfl (.tmp 5) rfl (g2) rfl _ p Rp.out.len Bp.out ?_))
  refine (bytes_any p Rp.out _).mono ?_
  rintro e ws3 ⟨rfl, ht⟩
  replace Bp := Lib.hid (Bp.out.touch ht (by simp))
  replace HT := Lib.hid (HT.out.trans ht)
  clear ht
  rw [Fp.out]
  go_upto_region 3 with fail
  refine wp_region_list (wpList_flow (fun W => Touch [] ws3 W) (look [(6, isS (toS X)), (17, isS (toS X)), (18, isV (.int .i64 (((toS X).size : Int)))), (19, isB false), (20, isB false), (21, isS (toS X)), (22, isV (.int .u8 ((c : Int)))), (23, isB false), (24, isB false)]) [6] [17, 18, 19, 20, 21, 22, 23, 24] [24] (by kernel_rfl) (by kernel_rfl) (by kernel_rfl) (by first | exact Touch.refl _ _ | assumption) ⟨rfl, trivial⟩ ?_ ?_)
  · refine FSteps.cons (FStep.plain rfl fun a w hS hE => OpTo.move rfl ⟨dOf.of 17 rfl (hE 6 (by kernel_rfl)), hS⟩) ?_
    refine FSteps.cons (FStep.plain rfl fun a w hS hE => OpTo.lenS Try.underlying9 (toS X) rfl (hE 17 (by kernel_rfl)) ⟨dOf.of 18 rfl rfl, hS⟩) ?_
    refine FSteps.cons (FStep.plain rfl fun a w hS hE => OpTo.neI (((toS X).size : Int)) (32) rfl (hE 18 (by kernel_rfl)) rfl ⟨dOf.of 19 rfl (by rw [K19.out]; rfl), hS⟩) ?_
    refine FSteps.cons (FStep.plain rfl fun a w hS hE => OpTo.move rfl ⟨dOf.of 20 rfl (hE 19 (by kernel_rfl)), hS⟩) ?_
    refine FSteps.cons (FStep.go 20 rfl rfl (fun _ h => h) fun a w hS hE => OpTo.move rfl ⟨dOf.of 21 rfl (hE 6 (by kernel_rfl)), hS⟩) ?_
    refine FSteps.cons (FStep.go 20 rfl rfl (fun _ h => h) fun a w hS hE => OpTo.indexS Try.underlying9 (toS X) (31) rfl (hE 21 (by kernel_rfl)) rfl L22.out ⟨dOf.of 22 rfl (by rw [K22.out]; rfl), hS⟩) ?_
    refine FSteps.cons (FStep.go 20 rfl rfl (fun _ h => h) fun a w hS hE => OpTo.gtI ((c : Int)) (127) rfl (hE 22 (by kernel_rfl)) rfl ⟨dOf.of 23 rfl (by rw [K23.out]; rfl), hS⟩) ?_
    refine FSteps.cons (FStep.plain rfl fun a w hS hE => OpTo.pick false rfl (hE 20 (by kernel_rfl)) ⟨dOf.of 24 rfl (hE 23 (by kernel_rfl)), hS⟩) ?_
    exact FSteps.nil
  intro f wx hS hF
  obtain ⟨h24, -⟩ := hF
  replace h24 : f 24 = .bool false := h24
  (try unfold Act.put)
  simp only [setAll, List.setIfInBounds_toArray, List.set_cons_zero, List.set_cons_succ, h24]
  replace Bp := Lib.hid (Bp.out.touch hS (by simp))
  replace HT := Lib.hid (HT.out.trans hS)
  clear hS  h24
  rename World => w4
  go_upto_region 8 with fail
  rw [HK.out]
  refine wp_region_list (wpList_flowW (lookW [(8, pu (isS (dOnes))), (9, pu (isV (.int .u8 ((k : Int))))), (10, pu (isS ((strOfNums [237 + (k : Int)]) ++ (dOnes)))), (27, pu (isV (.int .u8 ((k : Int))))), (28, pu (isV (.int .u8 (237 + (k : Int))))), (29, sl1 (237 + (k : Int))), (30, pu (isS (strOfNums [237 + (k : Int)]))), (31, pu (isS (dOnes))), (32, pu (isS ((strOfNums [237 + (k : Int)]) ++ (dOnes))))]) [8, 9] [27, 28, 29, 30, 31, 32, 10] [10] (by kernel_rfl) (by kernel_rfl) (by kernel_rfl) ⟨rfl, rfl, trivial⟩ ?_ ?_)
  · refine FStepsW.cons (FStepW.plain rfl fun a w hS hE => OpTo.move rfl ⟨dOfW.of 27 rfl (hE 9 (by kernel_rfl)), Touch.refl _ _⟩) ?_
    refine FStepsW.cons (FStepW.plain rfl fun a w hS hE => OpTo.addI (237) ((k : Int)) (237 + (k : Int)) rfl rfl (hE 27 (by kernel_rfl)) K28.out ⟨dOfW.of 28 rfl rfl, Touch.refl _ _⟩) ?_
    refine FStepsW.cons (FStepW.plain rfl fun a w hS hE => OpTo.one (237 + (k : Int)) rfl (hE 28 (by kernel_rfl)) (fun _ _ h => dOfW.of 29 rfl h)) ?_
    refine FStepsW.cons (FStepW.plain rfl fun a w hS hE => OpTo.str1 (237 + (k : Int)) rfl (hE 29 (by kernel_rfl)) (dOfW.of 30 rfl rfl)) ?_
    refine FStepsW.cons (FStepW.plain rfl fun a w hS hE => OpTo.move rfl ⟨dOfW.of 31 rfl (hE 8 (by kernel_rfl)), Touch.refl _ _⟩) ?_
    refine FStepsW.cons (FStepW.plain rfl fun a w hS hE => OpTo.addS (strOfNums [237 + (k : Int)]) (dOnes) rfl (hE 30 (by kernel_rfl)) (hE 31 (by kernel_rfl)) K32.out ⟨dOfW.of 32 rfl rfl, Touch.refl _ _⟩) ?_
    refine FStepsW.cons (FStepW.plain rfl fun a w hS hE => OpTo.assign rfl ⟨dOfW.of 10 rfl (hE 32 (by kernel_rfl)), Touch.refl _ _⟩) ?_
    exact FStepsW.nil
  intro f wx hS hF
  obtain ⟨h10, -⟩ := hF
  replace h10 : f 10 = .string (strOfNums [237 + (k : Int)] ++ dOnes) := h10
  (try unfold Act.put)
  simp only [setAll, List.setIfInBounds_toArray, List.set_cons_zero, List.set_cons_succ, h10]
  replace Bp := Lib.hid (Bp.out.touch hS (by simp))
  replace HT := Lib.hid (HT.out.trans hS)
  clear hS  h10
  rename World => w5
  rw [HA.out]
  go_wp2_with fail
  refine (of_lit A 3 0 A1.out A2.out _).mono ?_
  rintro e wq6 ⟨q, hq, hfq, rfl, ht⟩
  have Rq := Lib.hid hq
  have Fq := Lib.hid (show fe q = 0 by rw [hfq])
  replace Bp := Lib.hid (Bp.out.touch ht (by simp))
  replace HT := Lib.hid (HT.out.trans ht)
  clear hq hfq ht
  go_upto_region 10 with (first | (refine wpList_storeE rfl (.tmp 11) (.tmp 36) rfl (wq6.heap.size) rfl q rfl 24 _ Rq.out.len rfl (z1_0 wq6) ?_))
  obtain ⟨bq, bt⟩ := boxed1 wq6 q
  obtain ⟨w7, hw7⟩ : ∃ w7, w7 = ((wq6.alloc (.cells #[.int .i64 0, .int .i64 0, .int .i64 0, .int .i64 0, .int .i64 0, .int .i64 0, .int .i64 0, .int .i64 0, .int .i64 0, .int .i64 0, .int .i64 0, .int .i64 0, .int .i64 0, .int .i64 0, .int .i64 0, .int .i64 0] 24)).setRow (wq6.heap.size) (cellsZ q).toArray) := ⟨_, rfl⟩
  obtain ⟨g7, hg⟩ : ∃ g7, g7 = wq6.heap.size := ⟨_, rfl⟩
  rw [← hw7, ← hg] at bq
  rw [← hw7] at bt ⊢
  rw [← hg]
  replace Bp := Lib.hid (Bp.out.touch bt (by simp))
  replace HT := Lib.hid (HT.out.trans bt)
  have Bq := Lib.hid bq
  have ilq := Lib.hid (infoL Rq.out)
  clear bq bt hw7 hg
  refine wp_region_flowW (by kernel_rfl) (lookW [(4, pu (isB true)), (7, pu (isS (dSmall))), (9, pu (isV (.int .u8 ((k : Int))))), (10, pu (isS (A))), (12, pu (isV (.int .i64 (3)))), (38, pu (isS (A))), (39, pu (EV (k))), (40, pu (isS (toS (k)))), (41, pu (isV (.int .u8 ((k : Int))))), (42, sl1 ((k : Int))), (43, pu (isS (strOfNums [(k : Int)]))), (44, pu (isS (dSmall))), (45, pu (isS ((strOfNums [(k : Int)]) ++ (dSmall)))), (46, pu (isB true)), (47, pu (isB true)), (48, pu (isV (.int .i64 (3)))), (49, pu (isB true)), (50, pu (isB true)), (51, pu (isB true)), (52, pu (isB true)), (53, pu (isB true))]) [7, 9, 10, 12] [38, 39, 40, 41, 42, 43, 44, 45, 46, 47, 48, 49, 50, 51, 52, 53, 4] [4] (by kernel_rfl) (by kernel_rfl) (by kernel_rfl) (by kernel_rfl) ⟨rfl, rfl, rfl, rfl, trivial⟩ ?_ ?_
  · refine FStepsW.cons (FStepW.plain rfl fun a w hS hE => OpTo.move rfl ⟨dOfW.of 38 rfl (hE 10 (by kernel_rfl)), Touch.refl _ _⟩) ?_
    refine FStepsW.cons (FStepW.plain rfl fun a w hS hE => OpTo.call #[a.tmps.getD 38 undef] rfl Try.func11 (by kernel_rfl) (by kernel_rfl) (args1 ..) ((cut_s (hE 38 (by kernel_rfl)) A3.out w).mono fun _ _ h => Gives.toW 39 rfl (fun _ _ h => h) h)) ?_
    refine FStepsW.cons (FStepW.plain rfl fun a w hS hE => OpTo.call #[a.tmps.getD 39 undef] rfl Try.func13 (by kernel_rfl) (by kernel_rfl) (args1 ..) ((bytes_v (hE 39 (by kernel_rfl)) w).mono fun _ _ h => Gives.toW 40 rfl (fun _ _ h => h) h)) ?_
    refine FStepsW.cons (FStepW.plain rfl fun a w hS hE => OpTo.move rfl ⟨dOfW.of 41 rfl (hE 9 (by kernel_rfl)), Touch.refl _ _⟩) ?_
    refine FStepsW.cons (FStepW.plain rfl fun a w hS hE => OpTo.one ((k : Int)) rfl (hE 41 (by kernel_rfl)) (fun _ _ h => dOfW.of 42 rfl h)) ?_
    refine FStepsW.cons (FStepW.plain rfl fun a w hS hE => OpTo.str1 ((k : Int)) rfl (hE 42 (by kernel_rfl)) (dOfW.of 43 rfl rfl)) ?_
    refine FStepsW.cons (FStepW.plain rfl fun a w hS hE => OpTo.move rfl ⟨dOfW.of 44 rfl (hE 7 (by kernel_rfl)), Touch.refl _ _⟩) ?_
    refine FStepsW.cons (FStepW.plain rfl fun a w hS hE => OpTo.addS (strOfNums [(k : Int)]) (dSmall) rfl (hE 43 (by kernel_rfl)) (hE 44 (by kernel_rfl)) K45.out ⟨dOfW.of 45 rfl rfl, Touch.refl _ _⟩) ?_
    refine FStepsW.cons (FStepW.plain rfl fun a w hS hE => OpTo.eqS (toS (k)) ((strOfNums [(k : Int)]) ++ (dSmall)) rfl (hE 40 (by kernel_rfl)) (hE 45 (by kernel_rfl)) ⟨dOfW.of 46 rfl (by rw [K46.out]; rfl), Touch.refl _ _⟩) ?_
    refine FStepsW.cons (FStepW.plain rfl fun a w hS hE => OpTo.move rfl ⟨dOfW.of 47 rfl (hE 46 (by kernel_rfl)), Touch.refl _ _⟩) ?_
    refine FStepsW.cons (FStepW.go 47 rfl rfl (fun _ _ h => h) fun a w hS hE => OpTo.move rfl ⟨dOfW.of 48 rfl (hE 12 (by kernel_rfl)), Touch.refl _ _⟩) ?_
    refine FStepsW.cons (FStepW.go 47 rfl rfl (fun _ _ h => h) fun a w hS hE => OpTo.eqI .i64 (3) (3) rfl (hE 48 (by kernel_rfl)) rfl ⟨dOfW.of 49 rfl (by rw [(decide_eq_true (rfl : (3 : Int) = 3))]; rfl), Touch.refl _ _⟩) ?_
    refine FStepsW.cons (FStepW.plain rfl fun a w hS hE => OpTo.pick true rfl (hE 47 (by kernel_rfl)) ⟨dOfW.of 50 rfl (hE 49 (by kernel_rfl)), Touch.refl _ _⟩) ?_
    refine FStepsW.cons (FStepW.plain rfl fun a w hS hE => OpTo.move rfl ⟨dOfW.of 51 rfl (hE 50 (by kernel_rfl)), Touch.refl _ _⟩) ?_
    refine FStepsW.cons (FStepW.go 51 rfl rfl (fun _ _ h => h) fun a w hS hE => OpTo.call #[] rfl Try.func27 (by kernel_rfl) (by kernel_rfl) (args0 ..) ((fixed_v hfix w).mono fun _ _ h => Gives.toW 52 rfl (fun _ _ h => h) h)) ?_
    refine FStepsW.cons (FStepW.plain rfl fun a w hS hE => OpTo.pick true rfl (hE 51 (by kernel_rfl)) ⟨dOfW.of 53 rfl (hE 52 (by kernel_rfl)), Touch.refl _ _⟩) ?_
    refine FStepsW.cons (FStepW.plain rfl fun a w hS hE => OpTo.assign rfl ⟨dOfW.of 4 rfl (hE 53 (by kernel_rfl)), Touch.refl _ _⟩) ?_
    exact FStepsW.nil
  intro f wx hS hF
  obtain ⟨h4, -⟩ := hF
  replace h4 : f 4 = .bool true := h4
  (try unfold Act.put)
  simp only [setAll, List.setIfInBounds_toArray, List.set_cons_zero, List.set_cons_succ, h4]
  replace Bp := Lib.hid (Bp.out.touch hS (by simp))
  replace Bq := Lib.hid (Bq.out.touch hS (by simp))
  replace HT := Lib.hid (HT.out.trans hS)
  clear hS  h4
  rename World => w8
  
  go_wp2_with fail
  go_ret
  exact ⟨rfl, HT.out⟩
theorem fdig_int (hfix : FixedOk) (s : ByteArray) (n : Int) (h : 0 ≤ n ∧ n < 256) (w : World) : Calls Try.prog 9 #[.string s, .int .u8 n] w fun e w' => e = .returned (.bool true) ∧ Touch [] w w' := by
  obtain ⟨m, rfl⟩ := Int.eq_ofNat_of_zero_le h.1
  exact fdig_walk hfix s m (by omega) w
end Go.Proofs.Ytbchjefgfghjlaa
