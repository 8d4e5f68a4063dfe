/- syngraphlaw04.FieldSmall: the walk. -/
import Derived.Test.YtbchjefgfghjlaaElem
import Derived.Test.YtbchjefgfghjlaaFLaws
import Derived.Test.YtbchjefgfghjlaaFixed04
import Derived.Test.YtbchjefgfghjlaaSeqFlow
import Derived.Test.YtbchjefgfghjlaaFixed04a
import Derived.Test.YtbchjefgfghjlaaOps
namespace Go.Proofs.Ytbchjefgfghjlaa
open Go.RowKit
theorem of_toS {m : Nat} (h : m < PP) : ofC (toS m) = 0 ∧ ofN (toS m) = m := by
  have h1 : cutN (toS m) = m := by
    unfold cutN
    rw [List.take_of_length_le (by rw [bl_len, toS_size]; omega), leN_toS, Nat.mod_eq_of_lt (Nat.lt_trans h PP_lt), Nat.mod_eq_of_lt h]
  have h2 : ofC (toS m) = 0 := by
    unfold ofC
    rw [if_neg (by rw [toS_size]; omega), if_neg (by rw [toS_size]; omega), if_pos (by rw [h1])]
  exact ⟨h2, by unfold ofN; rw [if_pos h2, h1]⟩
theorem u64_nat {x : Nat} (h : x < 18446744073709551616) : IntKind.u64.wrap (x : Int) = (x : Int) := IntWalk.u64_in _ (by omega)
theorem small_0 {m k : Nat} (h : m < 2147483648) (hk : 8 ≤ k) : m / 2 ^ (8 * k) % 256 = 0 := by
  have h1 : (2 : Nat) ^ 64 ≤ 2 ^ (8 * k) := Nat.pow_le_pow_right (by decide) (by omega)
  rw [Nat.div_eq_of_lt (Nat.lt_of_lt_of_le (by omega) h1)]
theorem sub_small {m n : Nat} (hm : m < 2147483648) (hn : n < 2147483648) (h : n ≤ m) : subF m n = m - n := by
  unfold subF addF negF PP
  omega
theorem toS_el {m : Nat} (i : Nat) (hi : i < (toS m).size) : ((toS m)[i]'hi).toNat = m / 2 ^ (8 * i) % 256 := by
  have h32 : i < 32 := by rwa [toS_size] at hi
  rw [← toS_at m i h32]
  unfold bl
  have h2 : i < (toS m).data.toList.length := by simpa using hi
  rw [List.getD_eq_getElem?_getD, List.getElem?_map, List.getElem?_eq_getElem h2]
  rfl
set_option maxRecDepth 100000 in
set_option maxHeartbeats 4000000 in
theorem fsmall_walk (hfix : FixedOk) (a b : Nat) (ha : a < 4294967296) (hb : b < 4294967296) (w : World) : Calls Try.prog 10 #[.int .u32 (a : Int), .int .u32 (b : Int)] w fun e w' => e = .returned (.bool true) ∧ Touch [] w w' := by
  obtain ⟨m, hm, hm31⟩ : ∃ m : Nat, (a : Int) / 2 = (m : Int) ∧ m < 2147483648 := ⟨a / 2, by omega, by omega⟩
  obtain ⟨n, hn, hn31⟩ : ∃ n : Nat, (b : Int) / 2 = (n : Int) ∧ n < 2147483648 := ⟨b / 2, by omega, by omega⟩
  have HM := Lib.hid hm
  have HN := Lib.hid hn
  clear hm hn
  have M31 := Lib.hid hm31
  have N31 := Lib.hid hn31
  have HT := Lib.hid (Touch.refl [] w)
  go_enter Try.func10, Try.ntmps10
  go_wp2_with fail
  simp only [HM.out, HN.out]
  clear ha hb
  refine (num_any m (Nat.lt_trans M31.out (by decide)) _).mono ?_
  rintro e wp1 ⟨p, hp, hfp, rfl, ht⟩
  have Rp := Lib.hid hp
  have Fp := Lib.hid (show fe p = m by rw [hfp, Nat.mod_eq_of_lt (Nat.lt_trans M31.out (by decide))])
  replace HT := Lib.hid (HT.out.trans ht)
  clear hp hfp ht
  go_wp2_with fail
  refine (num_any n (Nat.lt_trans N31.out (by decide)) _).mono ?_
  rintro e wq2 ⟨q, hq, hfq, rfl, ht⟩
  have Rq := Lib.hid hq
  have Fq := Lib.hid (show fe q = n by rw [hfq, Nat.mod_eq_of_lt (Nat.lt_trans N31.out (by decide))])
  replace HT := Lib.hid (HT.out.trans ht)
  clear hq hfq ht
  go_upto_region 3 with (first | (refine wpList_storeE rfl (.tmp 7) (.tmp 21) rfl (wq2.heap.size) rfl p rfl 24 _ Rp.out.len rfl (z2_0 wq2) ?_) | (refine wpList_storeE rfl (.tmp 8) (.tmp 23) rfl (wq2.heap.size + 1) rfl q rfl 24 _ Rq.out.len rfl (Blk.frow (z2_1 wq2) (by omega) _) ?_))
  obtain ⟨bp, bq, bt⟩ := boxed2 wq2 p q
  obtain ⟨w3, hw3⟩ : ∃ w3, w3 = ((((wq2.alloc (.cells #[.int .i64 0, .int .i64 0, .int .i64 0, .int .i64 0, .int .i64 0, .int .i64 0, .int .i64 0, .int .i64 0, .int .i64 0, .int .i64 0, .int .i64 0, .int .i64 0, .int .i64 0, .int .i64 0, .int .i64 0, .int .i64 0] 24)).alloc (.cells #[.int .i64 0, .int .i64 0, .int .i64 0, .int .i64 0, .int .i64 0, .int .i64 0, .int .i64 0, .int .i64 0, .int .i64 0, .int .i64 0, .int .i64 0, .int .i64 0, .int .i64 0, .int .i64 0, .int .i64 0, .int .i64 0] 24)).setRow (wq2.heap.size) (cellsZ p).toArray).setRow (wq2.heap.size + 1) (cellsZ q).toArray) := ⟨_, rfl⟩
  obtain ⟨g3, hg⟩ : ∃ g3, g3 = wq2.heap.size := ⟨_, rfl⟩
  rw [← hw3, ← hg] at bp bq
  rw [← hw3] at bt ⊢
  rw [← hg]
  replace HT := Lib.hid (HT.out.trans bt)
  have Bp := Lib.hid bp
  have ilp := Lib.hid (infoL Rp.out)
  have Bq := Lib.hid bq
  have ilq := Lib.hid (infoL Rq.out)
  clear bp bq bt hw3 hg
  go_wp2_with (first | (refine wpList_loadE rfl (.tmp 7) rfl (g3) rfl _ p Rp.out.len Bp.out ?_) | (refine wpList_loadE rfl (.tmp 8) rfl (g3 + 1) rfl _ q Rq.out.len Bq.out ?_))
  refine (bytes_any p Rp.out _).mono ?_
  rintro e ws4 ⟨rfl, ht⟩
  replace Bp := Lib.hid (Bp.out.touch ht (by simp))
  replace Bq := Lib.hid (Bq.out.touch ht (by simp))
  replace HT := Lib.hid (HT.out.trans ht)
  clear ht
  rw [Fp.out]
  have hsz : (toS m).size = 32 := toS_size m
  go_wp2_with fail
  go_loop [10, 11] (fun vi _ => ∃ k : Nat, k ≤ 32 ∧ vi = .int .i64 k) (fun vi _ => 32 - (intOf vi).toNat)
  case atStart => exact ⟨0, by omega, rfl⟩
  case round =>
    obtain ⟨k, hk, rfl⟩ := hrel
    by_cases h32 : k < 32
    · by_cases h8 : k < 8
      · have hb : (((toS m)[k]'(by omega)).toNat : Int) = (m : Int) / 2 ^ (8 * k) % 256 := by rw [toS_el k (by omega)]; simp
        go_wp2_with fail
        go_round
        case rel => exact ⟨k + 1, by omega, by go_num⟩
        case measure => simp [intOf]; omega
      · have hb : (((toS m)[k]'(by omega)).toNat : Int) = 0 := by rw [toS_el k (by omega), small_0 M31.out (by omega)]; rfl
        go_wp2_with fail
        go_round
        case rel => exact ⟨k + 1, by omega, by go_num⟩
        case measure => simp [intOf]; omega
    · obtain rfl : k = 32 := by omega
      clear hk h32 hsz
      have O := of_toS (m := m) (Nat.lt_trans M31.out (by decide))
      have O1 := Lib.hid O.1
      have O2 := Lib.hid O.2
      clear O
      go_wp2_with fail
      refine (of_lit (toS m) 0 m O1.out O2.out _).mono ?_
      rintro e wr5 ⟨r, hr, hfr, rfl, ht⟩
      have Rr := Lib.hid hr
      have Fr := Lib.hid (show fe r = m by rw [hfr])
      replace Bp := Lib.hid (Bp.out.touch ht (by simp))
      replace Bq := Lib.hid (Bq.out.touch ht (by simp))
      replace HT := Lib.hid (HT.out.trans ht)
      clear hr hfr ht
      go_upto_region 15 with (first | (refine wpList_storeE rfl (.tmp 12) (.tmp 49) rfl (wr5.heap.size) rfl r rfl 24 _ Rr.out.len rfl (z1_0 wr5) ?_))
      obtain ⟨br, bt⟩ := boxed1 wr5 r
      obtain ⟨w6, hw6⟩ : ∃ w6, w6 = ((wr5.alloc (.cells #[.int .i64 0, .int .i64 0, .int .i64 0, .int .i64 0, .int .i64 0, .int .i64 0, .int .i64 0, .int .i64 0, .int .i64 0, .int .i64 0, .int .i64 0, .int .i64 0, .int .i64 0, .int .i64 0, .int .i64 0, .int .i64 0] 24)).setRow (wr5.heap.size) (cellsZ r).toArray) := ⟨_, rfl⟩
      obtain ⟨g6, hg⟩ : ∃ g6, g6 = wr5.heap.size := ⟨_, rfl⟩
      rw [← hw6, ← hg] at br
      rw [← hw6] at bt ⊢
      rw [← hg]
      replace Bp := Lib.hid (Bp.out.touch bt (by simp))
      replace Bq := Lib.hid (Bq.out.touch bt (by simp))
      replace HT := Lib.hid (HT.out.trans bt)
      have Br := Lib.hid br
      have ilr := Lib.hid (infoL Rr.out)
      clear br bt hw6 hg
      have K56 := Lib.hid (show decide (m + n < 4294967296) = true from decide_eq_true (by omega))
      have hmn : m * n < 4611686018427387905 := Nat.lt_of_le_of_lt (Nat.mul_le_mul (Nat.le_of_lt_succ (Nat.lt_succ_of_lt hm31)) (Nat.le_of_lt hn31)) (by decide)
      have L65 := Lib.hid (show m + n < 18446744073709551616 by omega)
      have L75 := Lib.hid (show m * n < 18446744073709551616 from Nat.lt_trans hmn (by decide))
      have K64 := Lib.hid (show IntKind.u64.wrap ((m : Int) + (n : Int)) = ((m + n : Nat) : Int) by rw [IntWalk.u64_in _ (by omega)]; omega)
      have K74 := Lib.hid (show IntKind.u64.wrap ((m : Int) * (n : Int)) = ((m * n : Nat) : Int) by rw [← Int.natCast_mul]; exact u64_nat L75.out)
      have N65 := Lib.hid (show (m + n) % PP = m + n from Nat.mod_eq_of_lt (Nat.lt_trans L65.out (by decide)))
      have N75 := Lib.hid (show (m * n) % PP = m * n from Nat.mod_eq_of_lt (Nat.lt_trans L75.out (by decide)))
      have K66 := Lib.hid (show decide (addF m n = m + n) = true from decide_eq_true N65.out)
      have K76 := Lib.hid (show decide (mulF m n = m * n) = true from decide_eq_true N75.out)
      have K82 := Lib.hid (show (m : Int).tmod 2 = ((m % 2 : Nat) : Int) by rw [Int.tmod_eq_emod_of_nonneg (by omega)]; omega)
      have K83 := Lib.hid (show decide (((m % 2 : Nat) : Int) = 1) = decide (m % 2 = 1) from decide_eq_decide.2 (by omega))
      have K90 := Lib.hid (show decide ((m : Int) = 0) = decide (m = 0) from decide_eq_decide.2 (by omega))
      have Hhm := Lib.hid hm31
      have Hhn := Lib.hid hn31
      clear hm31 hn31 hmn K56
      by_cases hlt : m < n
      · skip
        have K96 := Lib.hid (show decide ((m : Int) < (n : Int)) = true from decide_eq_true (by omega))
        clear hlt
        have rgp := Lib.hid (range_far Bp.out)
        have rgq := Lib.hid (range_far Bq.out)
        have rgr := Lib.hid (range_far Br.out)
        refine wp_region_list (wpList_flow (fun W => Touch [] w6 W) (look [(4, isB true), (5, isV (.int .u64 ((m : Int)))), (6, isV (.int .u64 ((n : Int)))), (7, isP (g3)), (8, isP (g3 + 1)), (12, isP (g6)), (13, isV (.int .i64 (0))), (51, isV (.int .i64 (0))), (52, isB true), (53, isB true), (54, EV (m)), (55, EV (m)), (56, isB true), (57, isB true), (58, isB true), (59, EV (m)), (60, EV (n)), (61, EV (addF (m) (n))), (62, isV (.int .u64 ((m : Int)))), (63, isV (.int .u64 ((n : Int)))), (64, isV (.int .u64 (((m + n : Nat) : Int)))), (65, EV (m + n)), (66, isB true), (67, isB true), (68, isB true), (69, EV (m)), (70, EV (n)), (71, EV (mulF (m) (n))), (72, isV (.int .u64 ((m : Int)))), (73, isV (.int .u64 ((n : Int)))), (74, isV (.int .u64 (((m * n : Nat) : Int)))), (75, EV (m * n)), (76, isB true), (77, isB true), (78, isB true), (79, EV (m)), (80, isB (decide (m % 2 = 1))), (81, isV (.int .u64 ((m : Int)))), (82, isV (.int .u64 (((m % 2 : Nat) : Int)))), (83, isB (decide (m % 2 = 1))), (84, isB true), (85, isB true), (86, isB true), (87, EV (m)), (88, isB (decide (m = 0))), (89, isV (.int .u64 ((m : Int)))), (90, isB (decide (m = 0))), (91, isB true), (92, isB true), (93, isB true), (94, isV (.int .u64 ((m : Int)))), (95, isV (.int .u64 ((n : Int)))), (96, isB true), (97, isB true), (98, isU), (99, isU), (100, isU), (101, isU), (102, isU), (103, isU), (104, isU), (105, isU), (106, isB true), (107, isB true), (108, isB true), (109, isB true), (110, isB true)]) [5, 6, 7, 8, 12, 13] [51, 52, 53, 54, 55, 56, 57, 58, 59, 60, 61, 62, 63, 64, 65, 66, 67, 68, 69, 70, 71, 72, 73, 74, 75, 76, 77, 78, 79, 80, 81, 82, 83, 84, 85, 86, 87, 88, 89, 90, 91, 92, 93, 94, 95, 96, 97, 98, 99, 100, 101, 102, 103, 104, 105, 106, 107, 108, 109, 110, 4] [4] (by kernel_rfl) (by kernel_rfl) (by kernel_rfl) (by first | exact Touch.refl _ _ | assumption) ⟨rfl, rfl, rfl, rfl, rfl, rfl, trivial⟩ ?_ ?_)
        · refine FSteps.cons (FStep.plain rfl fun a w hS hE => OpTo.move rfl ⟨dOf.of 51 rfl (hE 13 (by kernel_rfl)), hS⟩) ?_
          refine FSteps.cons (FStep.plain rfl fun a w hS hE => OpTo.eqI .i64 (0) (0) rfl (hE 51 (by kernel_rfl)) rfl ⟨dOf.of 52 rfl (by rw [(decide_eq_true (rfl : (0 : Int) = 0))]; rfl), hS⟩) ?_
          refine FSteps.cons (FStep.plain rfl fun a w hS hE => OpTo.move rfl ⟨dOf.of 53 rfl (hE 52 (by kernel_rfl)), hS⟩) ?_
          refine FSteps.cons (FStep.go 53 rfl rfl (fun _ h => h) fun a w hS hE => OpTo.row _ (.tmp 12) rfl (g6) (hE 12 (by kernel_rfl)) (cellsZ r) _ (rgr.out w hS) Try.underlying24 rfl ilr.out ⟨dOf.of 54 rfl ⟨r, Rr.out, Fr.out, rfl⟩, hS⟩) ?_
          refine FSteps.cons (FStep.go 53 rfl rfl (fun _ h => h) fun a w hS hE => OpTo.row _ (.tmp 7) rfl (g3) (hE 7 (by kernel_rfl)) (cellsZ p) _ (rgp.out w hS) Try.underlying24 rfl ilp.out ⟨dOf.of 55 rfl ⟨p, Rp.out, Fp.out, rfl⟩, hS⟩) ?_
          refine FSteps.cons (FStep.go 53 rfl rfl (fun _ h => h) fun a w hS hE => OpTo.call #[a.tmps.getD 54 undef, a.tmps.getD 55 undef] rfl Try.func22 (by kernel_rfl) (by kernel_rfl) (args2 ..) ((same_v (hE 54 (by kernel_rfl)) (hE 55 (by kernel_rfl)) (decide_eq_true (rfl : m = m)) w).mono fun _ _ h => Gives.to hS 56 rfl (fun _ h => h) h)) ?_
          refine FSteps.cons (FStep.plain rfl fun a w hS hE => OpTo.pick true rfl (hE 53 (by kernel_rfl)) ⟨dOf.of 57 rfl (hE 56 (by kernel_rfl)), hS⟩) ?_
          refine FSteps.cons (FStep.plain rfl fun a w hS hE => OpTo.move rfl ⟨dOf.of 58 rfl (hE 57 (by kernel_rfl)), hS⟩) ?_
          refine FSteps.cons (FStep.go 58 rfl rfl (fun _ h => h) fun a w hS hE => OpTo.row _ (.tmp 7) rfl (g3) (hE 7 (by kernel_rfl)) (cellsZ p) _ (rgp.out w hS) Try.underlying24 rfl ilp.out ⟨dOf.of 59 rfl ⟨p, Rp.out, Fp.out, rfl⟩, hS⟩) ?_
          refine FSteps.cons (FStep.go 58 rfl rfl (fun _ h => h) fun a w hS hE => OpTo.row _ (.tmp 8) rfl (g3 + 1) (hE 8 (by kernel_rfl)) (cellsZ q) _ (rgq.out w hS) Try.underlying24 rfl ilq.out ⟨dOf.of 60 rfl ⟨q, Rq.out, Fq.out, rfl⟩, hS⟩) ?_
          refine FSteps.cons (FStep.go 58 rfl rfl (fun _ h => h) fun a w hS hE => OpTo.call #[a.tmps.getD 59 undef, a.tmps.getD 60 undef] rfl Try.func14 (by kernel_rfl) (by kernel_rfl) (args2 ..) ((add_v (hE 59 (by kernel_rfl)) (hE 60 (by kernel_rfl)) w).mono fun _ _ h => Gives.to hS 61 rfl (fun _ h => h) h)) ?_
          refine FSteps.cons (FStep.go 58 rfl rfl (fun _ h => h) fun a w hS hE => OpTo.move rfl ⟨dOf.of 62 rfl (hE 5 (by kernel_rfl)), hS⟩) ?_
          refine FSteps.cons (FStep.go 58 rfl rfl (fun _ h => h) fun a w hS hE => OpTo.move rfl ⟨dOf.of 63 rfl (hE 6 (by kernel_rfl)), hS⟩) ?_
          refine FSteps.cons (FStep.go 58 rfl rfl (fun _ h => h) fun a w hS hE => OpTo.addI ((m : Int)) ((n : Int)) (((m + n : Nat) : Int)) rfl (hE 62 (by kernel_rfl)) (hE 63 (by kernel_rfl)) K64.out ⟨dOf.of 64 rfl rfl, hS⟩) ?_
          refine FSteps.cons (FStep.go 58 rfl rfl (fun _ h => h) fun a w hS hE => OpTo.call #[a.tmps.getD 64 undef] rfl Try.func30 (by kernel_rfl) (by kernel_rfl) (args1 ..) ((num_s (hE 64 (by kernel_rfl)) L65.out N65.out w).mono fun _ _ h => Gives.to hS 65 rfl (fun _ h => h) h)) ?_
          refine FSteps.cons (FStep.go 58 rfl rfl (fun _ h => h) fun a w hS hE => OpTo.call #[a.tmps.getD 61 undef, a.tmps.getD 65 undef] rfl Try.func22 (by kernel_rfl) (by kernel_rfl) (args2 ..) ((same_v (hE 61 (by kernel_rfl)) (hE 65 (by kernel_rfl)) K66.out w).mono fun _ _ h => Gives.to hS 66 rfl (fun _ h => h) h)) ?_
          refine FSteps.cons (FStep.plain rfl fun a w hS hE => OpTo.pick true rfl (hE 58 (by kernel_rfl)) ⟨dOf.of 67 rfl (hE 66 (by kernel_rfl)), hS⟩) ?_
          refine FSteps.cons (FStep.plain rfl fun a w hS hE => OpTo.move rfl ⟨dOf.of 68 rfl (hE 67 (by kernel_rfl)), hS⟩) ?_
          refine FSteps.cons (FStep.go 68 rfl rfl (fun _ h => h) fun a w hS hE => OpTo.row _ (.tmp 7) rfl (g3) (hE 7 (by kernel_rfl)) (cellsZ p) _ (rgp.out w hS) Try.underlying24 rfl ilp.out ⟨dOf.of 69 rfl ⟨p, Rp.out, Fp.out, rfl⟩, hS⟩) ?_
          refine FSteps.cons (FStep.go 68 rfl rfl (fun _ h => h) fun a w hS hE => OpTo.row _ (.tmp 8) rfl (g3 + 1) (hE 8 (by kernel_rfl)) (cellsZ q) _ (rgq.out w hS) Try.underlying24 rfl ilq.out ⟨dOf.of 70 rfl ⟨q, Rq.out, Fq.out, rfl⟩, hS⟩) ?_
          refine FSteps.cons (FStep.go 68 rfl rfl (fun _ h => h) fun a w hS hE => OpTo.call #[a.tmps.getD 69 undef, a.tmps.getD 70 undef] rfl Try.func18 (by kernel_rfl) (by kernel_rfl) (args2 ..) ((mul_v (hE 69 (by kernel_rfl)) (hE 70 (by kernel_rfl)) w).mono fun _ _ h => Gives.to hS 71 rfl (fun _ h => h) h)) ?_
          refine FSteps.cons (FStep.go 68 rfl rfl (fun _ h => h) fun a w hS hE => OpTo.move rfl ⟨dOf.of 72 rfl (hE 5 (by kernel_rfl)), hS⟩) ?_
          refine FSteps.cons (FStep.go 68 rfl rfl (fun _ h => h) fun a w hS hE => OpTo.move rfl ⟨dOf.of 73 rfl (hE 6 (by kernel_rfl)), hS⟩) ?_
          refine FSteps.cons (FStep.go 68 rfl rfl (fun _ h => h) fun a w hS hE => OpTo.mulI ((m : Int)) ((n : Int)) (((m * n : Nat) : Int)) rfl (hE 72 (by kernel_rfl)) (hE 73 (by kernel_rfl)) K74.out ⟨dOf.of 74 rfl rfl, hS⟩) ?_
          refine FSteps.cons (FStep.go 68 rfl rfl (fun _ h => h) fun a w hS hE => OpTo.call #[a.tmps.getD 74 undef] rfl Try.func30 (by kernel_rfl) (by kernel_rfl) (args1 ..) ((num_s (hE 74 (by kernel_rfl)) L75.out N75.out w).mono fun _ _ h => Gives.to hS 75 rfl (fun _ h => h) h)) ?_
          refine FSteps.cons (FStep.go 68 rfl rfl (fun _ h => h) fun a w hS hE => OpTo.call #[a.tmps.getD 71 undef, a.tmps.getD 75 undef] rfl Try.func22 (by kernel_rfl) (by kernel_rfl) (args2 ..) ((same_v (hE 71 (by kernel_rfl)) (hE 75 (by kernel_rfl)) K76.out w).mono fun _ _ h => Gives.to hS 76 rfl (fun _ h => h) h)) ?_
          refine FSteps.cons (FStep.plain rfl fun a w hS hE => OpTo.pick true rfl (hE 68 (by kernel_rfl)) ⟨dOf.of 77 rfl (hE 76 (by kernel_rfl)), hS⟩) ?_
          refine FSteps.cons (FStep.plain rfl fun a w hS hE => OpTo.move rfl ⟨dOf.of 78 rfl (hE 77 (by kernel_rfl)), hS⟩) ?_
          refine FSteps.cons (FStep.go 78 rfl rfl (fun _ h => h) fun a w hS hE => OpTo.row _ (.tmp 7) rfl (g3) (hE 7 (by kernel_rfl)) (cellsZ p) _ (rgp.out w hS) Try.underlying24 rfl ilp.out ⟨dOf.of 79 rfl ⟨p, Rp.out, Fp.out, rfl⟩, hS⟩) ?_
          refine FSteps.cons (FStep.go 78 rfl rfl (fun _ h => h) fun a w hS hE => OpTo.call #[a.tmps.getD 79 undef] rfl Try.func23 (by kernel_rfl) (by kernel_rfl) (args1 ..) ((odd_v (hE 79 (by kernel_rfl)) (b := decide (m % 2 = 1)) rfl w).mono fun _ _ h => Gives.to hS 80 rfl (fun _ h => h) h)) ?_
          refine FSteps.cons (FStep.go 78 rfl rfl (fun _ h => h) fun a w hS hE => OpTo.move rfl ⟨dOf.of 81 rfl (hE 5 (by kernel_rfl)), hS⟩) ?_
          refine FSteps.cons (FStep.go 78 rfl rfl (fun _ h => h) fun a w hS hE => OpTo.remI ((m : Int)) (2) (((m % 2 : Nat) : Int)) (by decide) rfl (hE 81 (by kernel_rfl)) rfl K82.out ⟨dOf.of 82 rfl rfl, hS⟩) ?_
          refine FSteps.cons (FStep.go 78 rfl rfl (fun _ h => h) fun a w hS hE => OpTo.eqI .u64 (((m % 2 : Nat) : Int)) (1) rfl (hE 82 (by kernel_rfl)) rfl ⟨dOf.of 83 rfl (by rw [K83.out]; rfl), hS⟩) ?_
          refine FSteps.cons (FStep.go 78 rfl rfl (fun _ h => h) fun a w hS hE => OpTo.eqB Try.underlying4 (decide (m % 2 = 1)) (decide (m % 2 = 1)) rfl (hE 80 (by kernel_rfl)) (hE 83 (by kernel_rfl)) ⟨dOf.of 84 rfl (congrArg Value.bool (beq_self_eq_true _)), hS⟩) ?_
          refine FSteps.cons (FStep.plain rfl fun a w hS hE => OpTo.pick true rfl (hE 78 (by kernel_rfl)) ⟨dOf.of 85 rfl (hE 84 (by kernel_rfl)), hS⟩) ?_
          refine FSteps.cons (FStep.plain rfl fun a w hS hE => OpTo.move rfl ⟨dOf.of 86 rfl (hE 85 (by kernel_rfl)), hS⟩) ?_
          refine FSteps.cons (FStep.go 86 rfl rfl (fun _ h => h) fun a w hS hE => OpTo.row _ (.tmp 7) rfl (g3) (hE 7 (by kernel_rfl)) (cellsZ p) _ (rgp.out w hS) Try.underlying24 rfl ilp.out ⟨dOf.of 87 rfl ⟨p, Rp.out, Fp.out, rfl⟩, hS⟩) ?_
          refine FSteps.cons (FStep.go 86 rfl rfl (fun _ h => h) fun a w hS hE => OpTo.call #[a.tmps.getD 87 undef] rfl Try.func25 (by kernel_rfl) (by kernel_rfl) (args1 ..) ((zero_v (hE 87 (by kernel_rfl)) (b := decide (m = 0)) rfl w).mono fun _ _ h => Gives.to hS 88 rfl (fun _ h => h) h)) ?_
          refine FSteps.cons (FStep.go 86 rfl rfl (fun _ h => h) fun a w hS hE => OpTo.move rfl ⟨dOf.of 89 rfl (hE 5 (by kernel_rfl)), hS⟩) ?_
          refine FSteps.cons (FStep.go 86 rfl rfl (fun _ h => h) fun a w hS hE => OpTo.eqI .u64 ((m : Int)) (0) rfl (hE 89 (by kernel_rfl)) rfl ⟨dOf.of 90 rfl (by rw [K90.out]; rfl), hS⟩) ?_
          refine FSteps.cons (FStep.go 86 rfl rfl (fun _ h => h) fun a w hS hE => OpTo.eqB Try.underlying4 (decide (m = 0)) (decide (m = 0)) rfl (hE 88 (by kernel_rfl)) (hE 90 (by kernel_rfl)) ⟨dOf.of 91 rfl (congrArg Value.bool (beq_self_eq_true _)), hS⟩) ?_
          refine FSteps.cons (FStep.plain rfl fun a w hS hE => OpTo.pick true rfl (hE 86 (by kernel_rfl)) ⟨dOf.of 92 rfl (hE 91 (by kernel_rfl)), hS⟩) ?_
          refine FSteps.cons (FStep.plain rfl fun a w hS hE => OpTo.move rfl ⟨dOf.of 93 rfl (hE 92 (by kernel_rfl)), hS⟩) ?_
          refine FSteps.cons (FStep.go 93 rfl rfl (fun _ h => h) fun a w hS hE => OpTo.move rfl ⟨dOf.of 94 rfl (hE 5 (by kernel_rfl)), hS⟩) ?_
          refine FSteps.cons (FStep.go 93 rfl rfl (fun _ h => h) fun a w hS hE => OpTo.move rfl ⟨dOf.of 95 rfl (hE 6 (by kernel_rfl)), hS⟩) ?_
          refine FSteps.cons (FStep.go 93 rfl rfl (fun _ h => h) fun a w hS hE => OpTo.ltI ((m : Int)) ((n : Int)) rfl (hE 94 (by kernel_rfl)) (hE 95 (by kernel_rfl)) ⟨dOf.of 96 rfl (by rw [K96.out]; rfl), hS⟩) ?_
          refine FSteps.cons (FStep.go 93 rfl rfl (fun _ h => h) fun a w hS hE => OpTo.move rfl ⟨dOf.of 97 rfl (hE 96 (by kernel_rfl)), hS⟩) ?_
          refine FSteps.cons (FStep.no 97 rfl rfl (fun _ h => h) (dOf.of 98 rfl rfl)) ?_
          refine FSteps.cons (FStep.no 97 rfl rfl (fun _ h => h) (dOf.of 99 rfl rfl)) ?_
          refine FSteps.cons (FStep.no 97 rfl rfl (fun _ h => h) (dOf.of 100 rfl rfl)) ?_
          refine FSteps.cons (FStep.no 97 rfl rfl (fun _ h => h) (dOf.of 101 rfl rfl)) ?_
          refine FSteps.cons (FStep.no 97 rfl rfl (fun _ h => h) (dOf.of 102 rfl rfl)) ?_
          refine FSteps.cons (FStep.no 97 rfl rfl (fun _ h => h) (dOf.of 103 rfl rfl)) ?_
          refine FSteps.cons (FStep.no 97 rfl rfl (fun _ h => h) (dOf.of 104 rfl rfl)) ?_
          refine FSteps.cons (FStep.no 97 rfl rfl (fun _ h => h) (dOf.of 105 rfl rfl)) ?_
          refine FSteps.cons (FStep.go 93 rfl rfl (fun _ h => h) fun a w hS hE => OpTo.pick true rfl (hE 97 (by kernel_rfl)) ⟨dOf.of 106 rfl (Eq.refl (Value.bool true)), hS⟩) ?_
          refine FSteps.cons (FStep.plain rfl fun a w hS hE => OpTo.pick true rfl (hE 93 (by kernel_rfl)) ⟨dOf.of 107 rfl (hE 106 (by kernel_rfl)), hS⟩) ?_
          refine FSteps.cons (FStep.plain rfl fun a w hS hE => OpTo.move rfl ⟨dOf.of 108 rfl (hE 107 (by kernel_rfl)), hS⟩) ?_
          refine FSteps.cons (FStep.go 108 rfl rfl (fun _ h => h) fun a w hS hE => OpTo.call #[] rfl Try.func27 (by kernel_rfl) (by kernel_rfl) (args0 ..) ((fixed_v hfix w).mono fun _ _ h => Gives.to hS 109 rfl (fun _ h => h) h)) ?_
          refine FSteps.cons (FStep.plain rfl fun a w hS hE => OpTo.pick true rfl (hE 108 (by kernel_rfl)) ⟨dOf.of 110 rfl (hE 109 (by kernel_rfl)), hS⟩) ?_
          refine FSteps.cons (FStep.plain rfl fun a w hS hE => OpTo.assign rfl ⟨dOf.of 4 rfl (hE 110 (by kernel_rfl)), hS⟩) ?_
          exact FSteps.nil
        intro f wx hS hF
        obtain ⟨h4, -⟩ := hF
        replace h4 : f 4 = .bool true := h4
        (try unfold Act.put)
        simp only [setAll, List.setIfInBounds_toArray, List.set_cons_zero, List.set_cons_succ, h4]
        replace Bp := Lib.hid (Bp.out.touch hS (by simp))
        replace Bq := Lib.hid (Bq.out.touch hS (by simp))
        replace Br := Lib.hid (Br.out.touch hS (by simp))
        replace HT := Lib.hid (HT.out.trans hS)
        clear hS rgp rgq rgr h4
        rename World => w7
        
        go_wp2_with fail
        go_ret
        exact ⟨rfl, HT.out⟩
      · skip
        have K96 := Lib.hid (show decide ((m : Int) < (n : Int)) = false from decide_eq_false (by omega))
        have L104 := Lib.hid (show m - n < 18446744073709551616 by have := Hhm.out; omega)
        have K103 := Lib.hid (show IntKind.u64.wrap ((m : Int) - (n : Int)) = ((m - n : Nat) : Int) by have := Hhm.out; rw [IntWalk.u64_in _ (by omega)]; omega)
        have N104 := Lib.hid (show (m - n) % PP = m - n from Nat.mod_eq_of_lt (Nat.lt_trans L104.out (by decide)))
        have K105 := Lib.hid (show decide (subF m n = m - n) = true from decide_eq_true (sub_small Hhm.out Hhn.out (by omega)))
        clear hlt
        have rgp := Lib.hid (range_far Bp.out)
        have rgq := Lib.hid (range_far Bq.out)
        have rgr := Lib.hid (range_far Br.out)
        refine wp_region_list (wpList_flow (fun W => Touch [] w6 W) (look [(4, isB true), (5, isV (.int .u64 ((m : Int)))), (6, isV (.int .u64 ((n : Int)))), (7, isP (g3)), (8, isP (g3 + 1)), (12, isP (g6)), (13, isV (.int .i64 (0))), (51, isV (.int .i64 (0))), (52, isB true), (53, isB true), (54, EV (m)), (55, EV (m)), (56, isB true), (57, isB true), (58, isB true), (59, EV (m)), (60, EV (n)), (61, EV (addF (m) (n))), (62, isV (.int .u64 ((m : Int)))), (63, isV (.int .u64 ((n : Int)))), (64, isV (.int .u64 (((m + n : Nat) : Int)))), (65, EV (m + n)), (66, isB true), (67, isB true), (68, isB true), (69, EV (m)), (70, EV (n)), (71, EV (mulF (m) (n))), (72, isV (.int .u64 ((m : Int)))), (73, isV (.int .u64 ((n : Int)))), (74, isV (.int .u64 (((m * n : Nat) : Int)))), (75, EV (m * n)), (76, isB true), (77, isB true), (78, isB true), (79, EV (m)), (80, isB (decide (m % 2 = 1))), (81, isV (.int .u64 ((m : Int)))), (82, isV (.int .u64 (((m % 2 : Nat) : Int)))), (83, isB (decide (m % 2 = 1))), (84, isB true), (85, isB true), (86, isB true), (87, EV (m)), (88, isB (decide (m = 0))), (89, isV (.int .u64 ((m : Int)))), (90, isB (decide (m = 0))), (91, isB true), (92, isB true), (93, isB true), (94, isV (.int .u64 ((m : Int)))), (95, isV (.int .u64 ((n : Int)))), (96, isB false), (97, isB false), (98, EV (m)), (99, EV (n)), (100, EV (subF (m) (n))), (101, isV (.int .u64 ((m : Int)))), (102, isV (.int .u64 ((n : Int)))), (103, isV (.int .u64 (((m - n : Nat) : Int)))), (104, EV (m - n)), (105, isB true), (106, isB true), (107, isB true), (108, isB true), (109, isB true), (110, isB true)]) [5, 6, 7, 8, 12, 13] [51, 52, 53, 54, 55, 56, 57, 58, 59, 60, 61, 62, 63, 64, 65, 66, 67, 68, 69, 70, 71, 72, 73, 74, 75, 76, 77, 78, 79, 80, 81, 82, 83, 84, 85, 86, 87, 88, 89, 90, 91, 92, 93, 94, 95, 96, 97, 98, 99, 100, 101, 102, 103, 104, 105, 106, 107, 108, 109, 110, 4] [4] (by kernel_rfl) (by kernel_rfl) (by kernel_rfl) (by first | exact Touch.refl _ _ | assumption) ⟨rfl, rfl, rfl, rfl, rfl, rfl, trivial⟩ ?_ ?_)
        · refine FSteps.cons (FStep.plain rfl fun a w hS hE => OpTo.move rfl ⟨dOf.of 51 rfl (hE 13 (by kernel_rfl)), hS⟩) ?_
          refine FSteps.cons (FStep.plain rfl fun a w hS hE => OpTo.eqI .i64 (0) (0) rfl (hE 51 (by kernel_rfl)) rfl ⟨dOf.of 52 rfl (by rw [(decide_eq_true (rfl : (0 : Int) = 0))]; rfl), hS⟩) ?_
          refine FSteps.cons (FStep.plain rfl fun a w hS hE => OpTo.move rfl ⟨dOf.of 53 rfl (hE 52 (by kernel_rfl)), hS⟩) ?_
          refine FSteps.cons (FStep.go 53 rfl rfl (fun _ h => h) fun a w hS hE => OpTo.row _ (.tmp 12) rfl (g6) (hE 12 (by kernel_rfl)) (cellsZ r) _ (rgr.out w hS) Try.underlying24 rfl ilr.out ⟨dOf.of 54 rfl ⟨r, Rr.out, Fr.out, rfl⟩, hS⟩) ?_
          refine FSteps.cons (FStep.go 53 rfl rfl (fun _ h => h) fun a w hS hE => OpTo.row _ (.tmp 7) rfl (g3) (hE 7 (by kernel_rfl)) (cellsZ p) _ (rgp.out w hS) Try.underlying24 rfl ilp.out ⟨dOf.of 55 rfl ⟨p, Rp.out, Fp.out, rfl⟩, hS⟩) ?_
          refine FSteps.cons (FStep.go 53 rfl rfl (fun _ h => h) fun a w hS hE => OpTo.call #[a.tmps.getD 54 undef, a.tmps.getD 55 undef] rfl Try.func22 (by kernel_rfl) (by kernel_rfl) (args2 ..) ((same_v (hE 54 (by kernel_rfl)) (hE 55 (by kernel_rfl)) (decide_eq_true (rfl : m = m)) w).mono fun _ _ h => Gives.to hS 56 rfl (fun _ h => h) h)) ?_
          refine FSteps.cons (FStep.plain rfl fun a w hS hE => OpTo.pick true rfl (hE 53 (by kernel_rfl)) ⟨dOf.of 57 rfl (hE 56 (by kernel_rfl)), hS⟩) ?_
          refine FSteps.cons (FStep.plain rfl fun a w hS hE => OpTo.move rfl ⟨dOf.of 58 rfl (hE 57 (by kernel_rfl)), hS⟩) ?_
          refine FSteps.cons (FStep.go 58 rfl rfl (fun _ h => h) fun a w hS hE => OpTo.row _ (.tmp 7) rfl (g3) (hE 7 (by kernel_rfl)) (cellsZ p) _ (rgp.out w hS) Try.underlying24 rfl ilp.out ⟨dOf.of 59 rfl ⟨p, Rp.out, Fp.out, rfl⟩, hS⟩) ?_
          refine FSteps.cons (FStep.go 58 rfl rfl (fun _ h => h) fun a w hS hE => OpTo.row _ (.tmp 8) rfl (g3 + 1) (hE 8 (by kernel_rfl)) (cellsZ q) _ (rgq.out w hS) Try.underlying24 rfl ilq.out ⟨dOf.of 60 rfl ⟨q, Rq.out, Fq.out, rfl⟩, hS⟩) ?_
          refine FSteps.cons (FStep.go 58 rfl rfl (fun _ h => h) fun a w hS hE => OpTo.call #[a.tmps.getD 59 undef, a.tmps.getD 60 undef] rfl Try.func14 (by kernel_rfl) (by kernel_rfl) (args2 ..) ((add_v (hE 59 (by kernel_rfl)) (hE 60 (by kernel_rfl)) w).mono fun _ _ h => Gives.to hS 61 rfl (fun _ h => h) h)) ?_
          refine FSteps.cons (FStep.go 58 rfl rfl (fun _ h => h) fun a w hS hE => OpTo.move rfl ⟨dOf.of 62 rfl (hE 5 (by kernel_rfl)), hS⟩) ?_
          refine FSteps.cons (FStep.go 58 rfl rfl (fun _ h => h) fun a w hS hE => OpTo.move rfl ⟨dOf.of 63 rfl (hE 6 (by kernel_rfl)), hS⟩) ?_
          refine FSteps.cons (FStep.go 58 rfl rfl (fun _ h => h) fun a w hS hE => OpTo.addI ((m : Int)) ((n : Int)) (((m + n : Nat) : Int)) rfl (hE 62 (by kernel_rfl)) (hE 63 (by kernel_rfl)) K64.out ⟨dOf.of 64 rfl rfl, hS⟩) ?_
          refine FSteps.cons (FStep.go 58 rfl rfl (fun _ h => h) fun a w hS hE => OpTo.call #[a.tmps.getD 64 undef] rfl Try.func30 (by kernel_rfl) (by kernel_rfl) (args1 ..) ((num_s (hE 64 (by kernel_rfl)) L65.out N65.out w).mono fun _ _ h => Gives.to hS 65 rfl (fun _ h => h) h)) ?_
          refine FSteps.cons (FStep.go 58 rfl rfl (fun _ h => h) fun a w hS hE => OpTo.call #[a.tmps.getD 61 undef, a.tmps.getD 65 undef] rfl Try.func22 (by kernel_rfl) (by kernel_rfl) (args2 ..) ((same_v (hE 61 (by kernel_rfl)) (hE 65 (by kernel_rfl)) K66.out w).mono fun _ _ h => Gives.to hS 66 rfl (fun _ h => h) h)) ?_
          refine FSteps.cons (FStep.plain rfl fun a w hS hE => OpTo.pick true rfl (hE 58 (by kernel_rfl)) ⟨dOf.of 67 rfl (hE 66 (by kernel_rfl)), hS⟩) ?_
          refine FSteps.cons (FStep.plain rfl fun a w hS hE => OpTo.move rfl ⟨dOf.of 68 rfl (hE 67 (by kernel_rfl)), hS⟩) ?_
          refine FSteps.cons (FStep.go 68 rfl rfl (fun _ h => h) fun a w hS hE => OpTo.row _ (.tmp 7) rfl (g3) (hE 7 (by kernel_rfl)) (cellsZ p) _ (rgp.out w hS) Try.underlying24 rfl ilp.out ⟨dOf.of 69 rfl ⟨p, Rp.out, Fp.out, rfl⟩, hS⟩) ?_
          refine FSteps.cons (FStep.go 68 rfl rfl (fun _ h => h) fun a w hS hE => OpTo.row _ (.tmp 8) rfl (g3 + 1) (hE 8 (by kernel_rfl)) (cellsZ q) _ (rgq.out w hS) Try.underlying24 rfl ilq.out ⟨dOf.of 70 rfl ⟨q, Rq.out, Fq.out, rfl⟩, hS⟩) ?_
          refine FSteps.cons (FStep.go 68 rfl rfl (fun _ h => h) fun a w hS hE => OpTo.call #[a.tmps.getD 69 undef, a.tmps.getD 70 undef] rfl Try.func18 (by kernel_rfl) (by kernel_rfl) (args2 ..) ((mul_v (hE 69 (by kernel_rfl)) (hE 70 (by kernel_rfl)) w).mono fun _ _ h => Gives.to hS 71 rfl (fun _ h => h) h)) ?_
          refine FSteps.cons (FStep.go 68 rfl rfl (fun _ h => h) fun a w hS hE => OpTo.move rfl ⟨dOf.of 72 rfl (hE 5 (by kernel_rfl)), hS⟩) ?_
          refine FSteps.cons (FStep.go 68 rfl rfl (fun _ h => h) fun a w hS hE => OpTo.move rfl ⟨dOf.of 73 rfl (hE 6 (by kernel_rfl)), hS⟩) ?_
          refine FSteps.cons (FStep.go 68 rfl rfl (fun _ h => h) fun a w hS hE => OpTo.mulI ((m : Int)) ((n : Int)) (((m * n : Nat) : Int)) rfl (hE 72 (by kernel_rfl)) (hE 73 (by kernel_rfl)) K74.out ⟨dOf.of 74 rfl rfl, hS⟩) ?_
          refine FSteps.cons (FStep.go 68 rfl rfl (fun _ h => h) fun a w hS hE => OpTo.call #[a.tmps.getD 74 undef] rfl Try.func30 (by kernel_rfl) (by kernel_rfl) (args1 ..) ((num_s (hE 74 (by kernel_rfl)) L75.out N75.out w).mono fun _ _ h => Gives.to hS 75 rfl (fun _ h => h) h)) ?_
          refine FSteps.cons (FStep.go 68 rfl rfl (fun _ h => h) fun a w hS hE => OpTo.call #[a.tmps.getD 71 undef, a.tmps.getD 75 undef] rfl Try.func22 (by kernel_rfl) (by kernel_rfl) (args2 ..) ((same_v (hE 71 (by kernel_rfl)) (hE 75 (by kernel_rfl)) K76.out w).mono fun _ _ h => Gives.to hS 76 rfl (fun _ h => h) h)) ?_
          refine FSteps.cons (FStep.plain rfl fun a w hS hE => OpTo.pick true rfl (hE 68 (by kernel_rfl)) ⟨dOf.of 77 rfl (hE 76 (by kernel_rfl)), hS⟩) ?_
          refine FSteps.cons (FStep.plain rfl fun a w hS hE => OpTo.move rfl ⟨dOf.of 78 rfl (hE 77 (by kernel_rfl)), hS⟩) ?_
          refine FSteps.cons (FStep.go 78 rfl rfl (fun _ h => h) fun a w hS hE => OpTo.row _ (.tmp 7) rfl (g3) (hE 7 (by kernel_rfl)) (cellsZ p) _ (rgp.out w hS) Try.underlying24 rfl ilp.out ⟨dOf.of 79 rfl ⟨p, Rp.out, Fp.out, rfl⟩, hS⟩) ?_
          refine FSteps.cons (FStep.go 78 rfl rfl (fun _ h => h) fun a w hS hE => OpTo.call #[a.tmps.getD 79 undef] rfl Try.func23 (by kernel_rfl) (by kernel_rfl) (args1 ..) ((odd_v (hE 79 (by kernel_rfl)) (b := decide (m % 2 = 1)) rfl w).mono fun _ _ h => Gives.to hS 80 rfl (fun _ h => h) h)) ?_
          refine FSteps.cons (FStep.go 78 rfl rfl (fun _ h => h) fun a w hS hE => OpTo.move rfl ⟨dOf.of 81 rfl (hE 5 (by kernel_rfl)), hS⟩) ?_
          refine FSteps.cons (FStep.go 78 rfl rfl (fun _ h => h) fun a w hS hE => OpTo.remI ((m : Int)) (2) (((m % 2 : Nat) : Int)) (by decide) rfl (hE 81 (by kernel_rfl)) rfl K82.out ⟨dOf.of 82 rfl rfl, hS⟩) ?_
          refine FSteps.cons (FStep.go 78 rfl rfl (fun _ h => h) fun a w hS hE => OpTo.eqI .u64 (((m % 2 : Nat) : Int)) (1) rfl (hE 82 (by kernel_rfl)) rfl ⟨dOf.of 83 rfl (by rw [K83.out]; rfl), hS⟩) ?_
          refine FSteps.cons (FStep.go 78 rfl rfl (fun _ h => h) fun a w hS hE => OpTo.eqB Try.underlying4 (decide (m % 2 = 1)) (decide (m % 2 = 1)) rfl (hE 80 (by kernel_rfl)) (hE 83 (by kernel_rfl)) ⟨dOf.of 84 rfl (congrArg Value.bool (beq_self_eq_true _)), hS⟩) ?_
          refine FSteps.cons (FStep.plain rfl fun a w hS hE => OpTo.pick true rfl (hE 78 (by kernel_rfl)) ⟨dOf.of 85 rfl (hE 84 (by kernel_rfl)), hS⟩) ?_
          refine FSteps.cons (FStep.plain rfl fun a w hS hE => OpTo.move rfl ⟨dOf.of 86 rfl (hE 85 (by kernel_rfl)), hS⟩) ?_
          refine FSteps.cons (FStep.go 86 rfl rfl (fun _ h => h) fun a w hS hE => OpTo.row _ (.tmp 7) rfl (g3) (hE 7 (by kernel_rfl)) (cellsZ p) _ (rgp.out w hS) Try.underlying24 rfl ilp.out ⟨dOf.of 87 rfl ⟨p, Rp.out, Fp.out, rfl⟩, hS⟩) ?_
          refine FSteps.cons (FStep.go 86 rfl rfl (fun _ h => h) fun a w hS hE => OpTo.call #[a.tmps.getD 87 undef] rfl Try.func25 (by kernel_rfl) (by kernel_rfl) (args1 ..) ((zero_v (hE 87 (by kernel_rfl)) (b := decide (m = 0)) rfl w).mono fun _ _ h => Gives.to hS 88 rfl (fun _ h => h) h)) ?_
          refine FSteps.cons (FStep.go 86 rfl rfl (fun _ h => h) fun a w hS hE => OpTo.move rfl ⟨dOf.of 89 rfl (hE 5 (by kernel_rfl)), hS⟩) ?_
          refine FSteps.cons (FStep.go 86 rfl rfl (fun _ h => h) fun a w hS hE => OpTo.eqI .u64 ((m : Int)) (0) rfl (hE 89 (by kernel_rfl)) rfl ⟨dOf.of 90 rfl (by rw [K90.out]; rfl), hS⟩) ?_
          refine FSteps.cons (FStep.go 86 rfl rfl (fun _ h => h) fun a w hS hE => OpTo.eqB Try.underlying4 (decide (m = 0)) (decide (m = 0)) rfl (hE 88 (by kernel_rfl)) (hE 90 (by kernel_rfl)) ⟨dOf.of 91 rfl (congrArg Value.bool (beq_self_eq_true _)), hS⟩) ?_
          refine FSteps.cons (FStep.plain rfl fun a w hS hE => OpTo.pick true rfl (hE 86 (by kernel_rfl)) ⟨dOf.of 92 rfl (hE 91 (by kernel_rfl)), hS⟩) ?_
          refine FSteps.cons (FStep.plain rfl fun a w hS hE => OpTo.move rfl ⟨dOf.of 93 rfl (hE 92 (by kernel_rfl)), hS⟩) ?_
          refine FSteps.cons (FStep.go 93 rfl rfl (fun _ h => h) fun a w hS hE => OpTo.move rfl ⟨dOf.of 94 rfl (hE 5 (by kernel_rfl)), hS⟩) ?_
          refine FSteps.cons (FStep.go 93 rfl rfl (fun _ h => h) fun a w hS hE => OpTo.move rfl ⟨dOf.of 95 rfl (hE 6 (by kernel_rfl)), hS⟩) ?_
          refine FSteps.cons (FStep.go 93 rfl rfl (fun _ h => h) fun a w hS hE => OpTo.ltI ((m : Int)) ((n : Int)) rfl (hE 94 (by kernel_rfl)) (hE 95 (by kernel_rfl)) ⟨dOf.of 96 rfl (by rw [K96.out]; rfl), hS⟩) ?_
          refine FSteps.cons (FStep.go 93 rfl rfl (fun _ h => h) fun a w hS hE => OpTo.move rfl ⟨dOf.of 97 rfl (hE 96 (by kernel_rfl)), hS⟩) ?_
          refine FSteps.cons (FStep.go 97 rfl rfl (fun _ h => h) fun a w hS hE => OpTo.row _ (.tmp 7) rfl (g3) (hE 7 (by kernel_rfl)) (cellsZ p) _ (rgp.out w hS) Try.underlying24 rfl ilp.out ⟨dOf.of 98 rfl ⟨p, Rp.out, Fp.out, rfl⟩, hS⟩) ?_
          refine FSteps.cons (FStep.go 97 rfl rfl (fun _ h => h) fun a w hS hE => OpTo.row _ (.tmp 8) rfl (g3 + 1) (hE 8 (by kernel_rfl)) (cellsZ q) _ (rgq.out w hS) Try.underlying24 rfl ilq.out ⟨dOf.of 99 rfl ⟨q, Rq.out, Fq.out, rfl⟩, hS⟩) ?_
          refine FSteps.cons (FStep.go 97 rfl rfl (fun _ h => h) fun a w hS hE => OpTo.call #[a.tmps.getD 98 undef, a.tmps.getD 99 undef] rfl Try.func16 (by kernel_rfl) (by kernel_rfl) (args2 ..) ((sub_v (hE 98 (by kernel_rfl)) (hE 99 (by kernel_rfl)) w).mono fun _ _ h => Gives.to hS 100 rfl (fun _ h => h) h)) ?_
          refine FSteps.cons (FStep.go 97 rfl rfl (fun _ h => h) fun a w hS hE => OpTo.move rfl ⟨dOf.of 101 rfl (hE 5 (by kernel_rfl)), hS⟩) ?_
          refine FSteps.cons (FStep.go 97 rfl rfl (fun _ h => h) fun a w hS hE => OpTo.move rfl ⟨dOf.of 102 rfl (hE 6 (by kernel_rfl)), hS⟩) ?_
          refine FSteps.cons (FStep.go 97 rfl rfl (fun _ h => h) fun a w hS hE => OpTo.subI ((m : Int)) ((n : Int)) (((m - n : Nat) : Int)) rfl (hE 101 (by kernel_rfl)) (hE 102 (by kernel_rfl)) K103.out ⟨dOf.of 103 rfl rfl, hS⟩) ?_
          refine FSteps.cons (FStep.go 97 rfl rfl (fun _ h => h) fun a w hS hE => OpTo.call #[a.tmps.getD 103 undef] rfl Try.func30 (by kernel_rfl) (by kernel_rfl) (args1 ..) ((num_s (hE 103 (by kernel_rfl)) L104.out N104.out w).mono fun _ _ h => Gives.to hS 104 rfl (fun _ h => h) h)) ?_
          refine FSteps.cons (FStep.go 97 rfl rfl (fun _ h => h) fun a w hS hE => OpTo.call #[a.tmps.getD 100 undef, a.tmps.getD 104 undef] rfl Try.func22 (by kernel_rfl) (by kernel_rfl) (args2 ..) ((same_v (hE 100 (by kernel_rfl)) (hE 104 (by kernel_rfl)) K105.out w).mono fun _ _ h => Gives.to hS 105 rfl (fun _ h => h) h)) ?_
          refine FSteps.cons (FStep.go 93 rfl rfl (fun _ h => h) fun a w hS hE => OpTo.pick false rfl (hE 97 (by kernel_rfl)) ⟨dOf.of 106 rfl (hE 105 (by kernel_rfl)), hS⟩) ?_
          refine FSteps.cons (FStep.plain rfl fun a w hS hE => OpTo.pick true rfl (hE 93 (by kernel_rfl)) ⟨dOf.of 107 rfl (hE 106 (by kernel_rfl)), hS⟩) ?_
          refine FSteps.cons (FStep.plain rfl fun a w hS hE => OpTo.move rfl ⟨dOf.of 108 rfl (hE 107 (by kernel_rfl)), hS⟩) ?_
          refine FSteps.cons (FStep.go 108 rfl rfl (fun _ h => h) fun a w hS hE => OpTo.call #[] rfl Try.func27 (by kernel_rfl) (by kernel_rfl) (args0 ..) ((fixed_v hfix w).mono fun _ _ h => Gives.to hS 109 rfl (fun _ h => h) h)) ?_
          refine FSteps.cons (FStep.plain rfl fun a w hS hE => OpTo.pick true rfl (hE 108 (by kernel_rfl)) ⟨dOf.of 110 rfl (hE 109 (by kernel_rfl)), hS⟩) ?_
          refine FSteps.cons (FStep.plain rfl fun a w hS hE => OpTo.assign rfl ⟨dOf.of 4 rfl (hE 110 (by kernel_rfl)), hS⟩) ?_
          exact FSteps.nil
        intro f wx hS hF
        obtain ⟨h4, -⟩ := hF
        replace h4 : f 4 = .bool true := h4
        (try unfold Act.put)
        simp only [setAll, List.setIfInBounds_toArray, List.set_cons_zero, List.set_cons_succ, h4]
        replace Bp := Lib.hid (Bp.out.touch hS (by simp))
        replace Bq := Lib.hid (Bq.out.touch hS (by simp))
        replace Br := Lib.hid (Br.out.touch hS (by simp))
        replace HT := Lib.hid (HT.out.trans hS)
        clear hS rgp rgq rgr h4
        rename World => w8
        
        go_wp2_with fail
        go_ret
        exact ⟨rfl, HT.out⟩
theorem fsmall_int (hfix : FixedOk) (a b : Int) (ha : 0 ≤ a ∧ a < 4294967296) (hb : 0 ≤ b ∧ b < 4294967296) (w : World) : Calls Try.prog 10 #[.int .u32 a, .int .u32 b] w fun e w' => e = .returned (.bool true) ∧ Touch [] w w' := by
  obtain ⟨m, rfl⟩ := Int.eq_ofNat_of_zero_le ha.1
  obtain ⟨n, rfl⟩ := Int.eq_ofNat_of_zero_le hb.1
  exact fsmall_walk hfix m n (by omega) (by omega) w
end Go.Proofs.Ytbchjefgfghjlaa
