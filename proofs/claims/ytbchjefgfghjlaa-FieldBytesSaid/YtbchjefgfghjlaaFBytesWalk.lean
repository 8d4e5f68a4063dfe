/- syngraphlaw04.FieldBytes: the walk. -/
import Derived.Test.YtbchjefgfghjlaaElem
import Derived.Test.YtbchjefgfghjlaaFLaws
import Derived.Test.YtbchjefgfghjlaaFixed04
import Derived.Test.YtbchjefgfghjlaaSeqFlow
import Derived.Test.YtbchjefgfghjlaaFField
import Derived.Test.YtbchjefgfghjlaaRefV
namespace Go.Proofs.Ytbchjefgfghjlaa
open Go.RowKit
theorem of_toS' {m : Nat} (h : m < PP) : ofC (toS m) = 0 ∧ ofN (toS m) = m := by
  have h1 : cutN (toS m) = m := by
    unfold cutN
    rw [List.take_of_length_le (by rw [bl_len, toS_size]; omega), leN_toS, Nat.mod_eq_of_lt (Nat.lt_trans h PP_lt), Nat.mod_eq_of_lt h]
  have h2 : ofC (toS m) = 0 := by
    unfold ofC
    rw [if_neg (by rw [toS_size]; omega), if_neg (by rw [toS_size]; omega), if_pos (by rw [h1])]
  exact ⟨h2, by unfold ofN; rw [if_pos h2, h1]⟩
theorem of_at (s : ByteArray) (c : Int) (n : Nat) (hc : ofC s = c) (hn : ofN s = n) (w : World) : Calls Try.prog 28 #[.string s] w fun e w' => ∃ r, Red r ∧ fe r = n ∧ e = .returned (.tuple #[elV r, .int .i64 c]) ∧ Touch [] w w' := by
  subst hc hn
  exact of_any s w
set_option maxRecDepth 100000 in
set_option maxHeartbeats 4000000 in
theorem fbytes_walk (hfix : FixedOk) (s : ByteArray) (n : Nat) (hn : n < 18446744073709551616) (w : World) : Calls Try.prog 4 #[.string s, .int .u64 (n : Int)] w fun e w' => e = .returned (.bool true) ∧ Touch [] w w' := by
  obtain ⟨X, hX⟩ : ∃ n, n = cutN s := ⟨_, rfl⟩
  have HX := Lib.hid hX.symm
  have lX : X < PP := hX ▸ cutN_lt _
  clear hX
  have Hn := Lib.hid hn
  have HO := of_toS' lX
  have O1 := Lib.hid HO.1
  have O2 := Lib.hid HO.2
  obtain ⟨c, hc⟩ : ∃ c, ofC s = c := ⟨_, rfl⟩
  obtain ⟨o, ho⟩ : ∃ o, ofN s = o := ⟨_, rfl⟩
  have R4 := Lib.hid (fun W => refOf_any s W)
  rw [hc, ho] at R4
  have Hc := Lib.hid hc
  have Ho := Lib.hid ho
  clear hn HO lX hc ho
  have HT := Lib.hid (Touch.refl [] w)
  go_enter Try.func4, Try.ntmps4
  go_wp2_with fail
  refine (of_at s c o Hc.out Ho.out _).mono ?_
  rintro e wp1 ⟨p, hp, hfp, rfl, ht⟩
  have Rp := Lib.hid hp
  have Fp := Lib.hid (show fe p = o by rw [hfp])
  replace HT := Lib.hid (HT.out.trans ht)
  clear hp hfp ht
  go_upto_region 2 with (first | (refine wpList_storeE rfl (.tmp 5) (.tmp 14) rfl (wp1.heap.size) rfl p rfl 24 _ Rp.out.len rfl (z1_0 wp1) ?_))
  obtain ⟨bp, bt⟩ := boxed1 wp1 p
  obtain ⟨w2, hw2⟩ : ∃ w2, w2 = ((wp1.alloc (.cells #[.int .i64 0, .int .i64 0, .int .i64 0, .int .i64 0, .int .i64 0, .int .i64 0, .int .i64 0, .int .i64 0, .int .i64 0, .int .i64 0, .int .i64 0, .int .i64 0, .int .i64 0, .int .i64 0, .int .i64 0, .int .i64 0] 24)).setRow (wp1.heap.size) (cellsZ p).toArray) := ⟨_, rfl⟩
  obtain ⟨g2, hg⟩ : ∃ g2, g2 = wp1.heap.size := ⟨_, rfl⟩
  rw [← hw2, ← hg] at bp
  rw [← hw2] at bt ⊢
  rw [← hg]
  replace HT := Lib.hid (HT.out.trans bt)
  have Bp := Lib.hid bp
  have ilp := Lib.hid (infoL Rp.out)
  clear bp bt hw2 hg
  go_wp2_with fail
  refine (R4.out _).mono ?_
  rintro e ws3 ⟨rfl, ht⟩
  replace Bp := Lib.hid (Bp.out.touch ht (by simp))
  replace HT := Lib.hid (HT.out.trans ht)
  clear ht
  go_wp2_with fail
  refine (cut_anyE s _).mono ?_
  rintro e wq4 ⟨q, hq, hfq, rfl, ht⟩
  have Rq := Lib.hid hq
  have Fq := Lib.hid (show fe q = X by rw [hfq, HX.out])
  replace Bp := Lib.hid (Bp.out.touch ht (by simp))
  replace HT := Lib.hid (HT.out.trans ht)
  clear hq hfq ht
  go_wp2_with fail
  refine (bytes_any q Rq.out _).mono ?_
  rintro e ws5 ⟨rfl, ht⟩
  replace Bp := Lib.hid (Bp.out.touch ht (by simp))
  replace HT := Lib.hid (HT.out.trans ht)
  clear ht
  rw [Fq.out]
  go_wp2_with fail
  refine (of_at (toS X) 0 X O1.out O2.out _).mono ?_
  rintro e wr6 ⟨r, hr, hfr, rfl, ht⟩
  have Rr := Lib.hid hr
  have Fr := Lib.hid (show fe r = X by rw [hfr])
  replace Bp := Lib.hid (Bp.out.touch ht (by simp))
  replace HT := Lib.hid (HT.out.trans ht)
  clear hr hfr ht
  go_upto_region 4 with (first | (refine wpList_storeE rfl (.tmp 9) (.tmp 26) rfl (wr6.heap.size) rfl r rfl 24 _ Rr.out.len rfl (z1_0 wr6) ?_))
  obtain ⟨br, bt⟩ := boxed1 wr6 r
  obtain ⟨w7, hw7⟩ : ∃ w7, w7 = ((wr6.alloc (.cells #[.int .i64 0, .int .i64 0, .int .i64 0, .int .i64 0, .int .i64 0, .int .i64 0, .int .i64 0, .int .i64 0, .int .i64 0, .int .i64 0, .int .i64 0, .int .i64 0, .int .i64 0, .int .i64 0, .int .i64 0, .int .i64 0] 24)).setRow (wr6.heap.size) (cellsZ r).toArray) := ⟨_, rfl⟩
  obtain ⟨g7, hg⟩ : ∃ g7, g7 = wr6.heap.size := ⟨_, rfl⟩
  rw [← hw7, ← hg] at br
  rw [← hw7] at bt ⊢
  rw [← hg]
  replace Bp := Lib.hid (Bp.out.touch bt (by simp))
  replace HT := Lib.hid (HT.out.trans bt)
  have Br := Lib.hid br
  have ilr := Lib.hid (infoL Rr.out)
  clear br bt hw7 hg
  have rgp := Lib.hid (range_far Bp.out)
  have rgr := Lib.hid (range_far Br.out)
  refine wp_region_flow (by kernel_rfl) (fun W => Touch [] w7 W) (look [(0, isS (s)), (1, isV (.int .u64 ((n : Int)))), (4, isB true), (5, isP (g2)), (6, isV (.int .i64 (c))), (7, isS (toS (o))), (8, isV (.int .i64 (c))), (9, isP (g7)), (10, isV (.int .i64 (0))), (28, EV (o)), (29, isS (toS (o))), (30, isS (toS (o))), (31, isB true), (32, isB true), (33, isV (.int .i64 (c))), (34, isV (.int .i64 (c))), (35, isB true), (36, isB true), (37, isB true), (38, isV (.int .u64 ((n : Int)))), (39, EV (n % PP)), (40, isS (toS (n % PP))), (41, isV (.int .u64 ((n : Int)))), (42, isS (toS (n % PP))), (43, isB true), (44, isB true), (45, isB true), (46, isV (.int .i64 (0))), (47, isB true), (48, isB true), (49, isB true), (50, EV (X)), (51, isS (s)), (52, EV (X)), (53, isB true), (54, isB true), (55, isB true), (56, isB true), (57, isB true)]) [0, 1, 5, 6, 7, 8, 9, 10] [28, 29, 30, 31, 32, 33, 34, 35, 36, 37, 38, 39, 40, 41, 42, 43, 44, 45, 46, 47, 48, 49, 50, 51, 52, 53, 54, 55, 56, 57, 4] [4] (by kernel_rfl) (by kernel_rfl) (by kernel_rfl) (by kernel_rfl) (by first | exact (Touch.refl _ _).drew | assumption) ⟨rfl, rfl, rfl, rfl, rfl, rfl, rfl, rfl, trivial⟩ ?_ ?_
  · refine FSteps.cons (FStep.plain rfl fun a w hS hE => OpTo.row _ (.tmp 5) rfl (g2) (hE 5 (by kernel_rfl)) (cellsZ p) _ (rgp.out w hS) Try.underlying24 rfl ilp.out ⟨dOf.of 28 rfl ⟨p, Rp.out, Fp.out, rfl⟩, hS⟩) ?_
    refine FSteps.cons (FStep.plain rfl fun a w hS hE => OpTo.call #[a.tmps.getD 28 undef] rfl Try.func13 (by kernel_rfl) (by kernel_rfl) (args1 ..) ((bytes_v (hE 28 (by kernel_rfl)) w).mono fun _ _ h => Gives.to hS 29 rfl (fun _ h => h) h)) ?_
    refine FSteps.cons (FStep.plain rfl fun a w hS hE => OpTo.move rfl ⟨dOf.of 30 rfl (hE 7 (by kernel_rfl)), hS⟩) ?_
    refine FSteps.cons (FStep.plain rfl fun a w hS hE => OpTo.eqS (toS (o)) (toS (o)) rfl (hE 29 (by kernel_rfl)) (hE 30 (by kernel_rfl)) ⟨dOf.of 31 rfl (by rw [(beq_self_eq_true (toS (o)).toList)]; rfl), hS⟩) ?_
    refine FSteps.cons (FStep.plain rfl fun a w hS hE => OpTo.move rfl ⟨dOf.of 32 rfl (hE 31 (by kernel_rfl)), hS⟩) ?_
    refine FSteps.cons (FStep.go 32 rfl rfl (fun _ h => h) fun a w hS hE => OpTo.move rfl ⟨dOf.of 33 rfl (hE 6 (by kernel_rfl)), hS⟩) ?_
    refine FSteps.cons (FStep.go 32 rfl rfl (fun _ h => h) fun a w hS hE => OpTo.move rfl ⟨dOf.of 34 rfl (hE 8 (by kernel_rfl)), hS⟩) ?_
    refine FSteps.cons (FStep.go 32 rfl rfl (fun _ h => h) fun a w hS hE => OpTo.eqI .i64 (c) (c) rfl (hE 33 (by kernel_rfl)) (hE 34 (by kernel_rfl)) ⟨dOf.of 35 rfl (by rw [(decide_eq_true (rfl : c = c))]; rfl), hS⟩) ?_
    refine FSteps.cons (FStep.plain rfl fun a w hS hE => OpTo.pick true rfl (hE 32 (by kernel_rfl)) ⟨dOf.of 36 rfl (hE 35 (by kernel_rfl)), hS⟩) ?_
    refine FSteps.cons (FStep.plain rfl fun a w hS hE => OpTo.move rfl ⟨dOf.of 37 rfl (hE 36 (by kernel_rfl)), hS⟩) ?_
    refine FSteps.cons (FStep.go 37 rfl rfl (fun _ h => h) fun a w hS hE => OpTo.move rfl ⟨dOf.of 38 rfl (hE 1 (by kernel_rfl)), hS⟩) ?_
    refine FSteps.cons (FStep.go 37 rfl rfl (fun _ h => h) fun a w hS hE => OpTo.call #[a.tmps.getD 38 undef] rfl Try.func30 (by kernel_rfl) (by kernel_rfl) (args1 ..) ((num_s (hE 38 (by kernel_rfl)) Hn.out rfl w).mono fun _ _ h => Gives.to hS 39 rfl (fun _ h => h) h)) ?_
    refine FSteps.cons (FStep.go 37 rfl rfl (fun _ h => h) fun a w hS hE => OpTo.call #[a.tmps.getD 39 undef] rfl Try.func13 (by kernel_rfl) (by kernel_rfl) (args1 ..) ((bytes_v (hE 39 (by kernel_rfl)) w).mono fun _ _ h => Gives.to hS 40 rfl (fun _ h => h) h)) ?_
    refine FSteps.cons (FStep.go 37 rfl rfl (fun _ h => h) fun a w hS hE => OpTo.move rfl ⟨dOf.of 41 rfl (hE 1 (by kernel_rfl)), hS⟩) ?_
    refine FSteps.cons (FStep.go 37 rfl rfl (fun _ h => h) fun a w hS hE => OpTo.call #[a.tmps.getD 41 undef] rfl Try.func26 (by kernel_rfl) (by kernel_rfl) (args1 ..) ((rnum_s (hE 41 (by kernel_rfl)) Hn.out rfl w).mono fun _ _ h => Gives.to hS 42 rfl (fun _ h => h) h)) ?_
    refine FSteps.cons (FStep.go 37 rfl rfl (fun _ h => h) fun a w hS hE => OpTo.eqS (toS (n % PP)) (toS (n % PP)) rfl (hE 40 (by kernel_rfl)) (hE 42 (by kernel_rfl)) ⟨dOf.of 43 rfl (by rw [(beq_self_eq_true (toS (n % PP)).toList)]; rfl), hS⟩) ?_
    refine FSteps.cons (FStep.plain rfl fun a w hS hE => OpTo.pick true rfl (hE 37 (by kernel_rfl)) ⟨dOf.of 44 rfl (hE 43 (by kernel_rfl)), hS⟩) ?_
    refine FSteps.cons (FStep.plain rfl fun a w hS hE => OpTo.move rfl ⟨dOf.of 45 rfl (hE 44 (by kernel_rfl)), hS⟩) ?_
    refine FSteps.cons (FStep.go 45 rfl rfl (fun _ h => h) fun a w hS hE => OpTo.move rfl ⟨dOf.of 46 rfl (hE 10 (by kernel_rfl)), hS⟩) ?_
    refine FSteps.cons (FStep.go 45 rfl rfl (fun _ h => h) fun a w hS hE => OpTo.eqI .i64 (0) (0) rfl (hE 46 (by kernel_rfl)) rfl ⟨dOf.of 47 rfl (by rw [(decide_eq_true (rfl : (0 : Int) = 0))]; rfl), hS⟩) ?_
    refine FSteps.cons (FStep.plain rfl fun a w hS hE => OpTo.pick true rfl (hE 45 (by kernel_rfl)) ⟨dOf.of 48 rfl (hE 47 (by kernel_rfl)), hS⟩) ?_
    refine FSteps.cons (FStep.plain rfl fun a w hS hE => OpTo.move rfl ⟨dOf.of 49 rfl (hE 48 (by kernel_rfl)), hS⟩) ?_
    refine FSteps.cons (FStep.go 49 rfl rfl (fun _ h => h) fun a w hS hE => OpTo.row _ (.tmp 9) rfl (g7) (hE 9 (by kernel_rfl)) (cellsZ r) _ (rgr.out w hS) Try.underlying24 rfl ilr.out ⟨dOf.of 50 rfl ⟨r, Rr.out, Fr.out, rfl⟩, hS⟩) ?_
    refine FSteps.cons (FStep.go 49 rfl rfl (fun _ h => h) fun a w hS hE => OpTo.move rfl ⟨dOf.of 51 rfl (hE 0 (by kernel_rfl)), hS⟩) ?_
    refine FSteps.cons (FStep.go 49 rfl rfl (fun _ h => h) fun a w hS hE => OpTo.call #[a.tmps.getD 51 undef] rfl Try.func11 (by kernel_rfl) (by kernel_rfl) (args1 ..) ((cut_s (hE 51 (by kernel_rfl)) HX.out w).mono fun _ _ h => Gives.to hS 52 rfl (fun _ h => h) h)) ?_
    refine FSteps.cons (FStep.go 49 rfl rfl (fun _ h => h) fun a w hS hE => OpTo.call #[a.tmps.getD 50 undef, a.tmps.getD 52 undef] rfl Try.func22 (by kernel_rfl) (by kernel_rfl) (args2 ..) ((same_v (hE 50 (by kernel_rfl)) (hE 52 (by kernel_rfl)) (decide_eq_true (rfl : X = X)) w).mono fun _ _ h => Gives.to hS 53 rfl (fun _ h => h) h)) ?_
    refine FSteps.cons (FStep.plain rfl fun a w hS hE => OpTo.pick true rfl (hE 49 (by kernel_rfl)) ⟨dOf.of 54 rfl (hE 53 (by kernel_rfl)), hS⟩) ?_
    refine FSteps.cons (FStep.plain rfl fun a w hS hE => OpTo.move rfl ⟨dOf.of 55 rfl (hE 54 (by kernel_rfl)), hS⟩) ?_
    refine FSteps.cons (FStep.go 55 rfl rfl (fun _ h => h) fun a w hS hE => OpTo.call #[] rfl Try.func27 (by kernel_rfl) (by kernel_rfl) (args0 ..) ((fixed_v hfix w).mono fun _ _ h => Gives.to hS 56 rfl (fun _ h => h) h)) ?_
    refine FSteps.cons (FStep.plain rfl fun a w hS hE => OpTo.pick true rfl (hE 55 (by kernel_rfl)) ⟨dOf.of 57 rfl (hE 56 (by kernel_rfl)), hS⟩) ?_
    refine FSteps.cons (FStep.plain rfl fun a w hS hE => OpTo.assign rfl ⟨dOf.of 4 rfl (hE 57 (by kernel_rfl)), hS⟩) ?_
    exact FSteps.nil
  intro f wx hS hF
  obtain ⟨h4, -⟩ := hF
  replace h4 : f 4 = .bool true := h4
  (try unfold Act.put)
  simp only [setAll, List.setIfInBounds_toArray, List.set_cons_zero, List.set_cons_succ, h4]
  replace Bp := Lib.hid (Bp.out.touch hS (by simp))
  replace Br := Lib.hid (Br.out.touch hS (by simp))
  replace HT := Lib.hid (HT.out.trans hS)
  clear hS rgp rgr h4
  rename World => w8
  
  go_wp2_with fail
  go_ret
  exact ⟨rfl, HT.out⟩
theorem fbytes_int (hfix : FixedOk) (s : ByteArray) (n : Int) (hn : 0 ≤ n ∧ n < 18446744073709551616) (w : World) : Calls Try.prog 4 #[.string s, .int .u64 n] w fun e w' => e = .returned (.bool true) ∧ Touch [] w w' := by
  obtain ⟨m, rfl⟩ := Int.eq_ofNat_of_zero_le hn.1
  exact fbytes_walk hfix s m (by omega) w
end Go.Proofs.Ytbchjefgfghjlaa
