/- PtRef2: joined. -/
import Derived.Test.YtbgpgbfiadhddaaPm15
import Derived.Test.YtbgpgbfiadhddaaPm22
/- The document's points: as often as a number says, from the lowest binary digit on. -/
namespace Go.Proofs.Ytbgpgbfiadhddaa
open Go Go.RowKit
theorem rbit_v {s : ByteArray} {j : Nat} {x y : Value} (hx : isS s x) (hy : isV (.int .i64 (j : Int)) y) {b : Int} (hj : j < 9223372036854775808) (hb : bitS s (j : Int) = b) (w : World) : Calls Try.prog 54 #[x, y] w (Gives w (isV (.int .i64 b))) := by
  obtain rfl : x = .string s := hx
  obtain rfl : y = .int .i64 (j : Int) := hy
  exact (refBit_any s j (by omega) w).mono fun _ _ ⟨he, hw⟩ => ⟨_, he, by rw [hb]; rfl, hw ▸ Touch.refl _ _⟩
theorem low_step0 {M k : Nat} (h : M / 2 ^ k % 2 = 0) : M % 2 ^ (k + 1) = M % 2 ^ k := by
  rw [Nat.pow_succ, Nat.mod_mul, h, Nat.mul_zero, Nat.add_zero]
theorem low_step1 {M k : Nat} (h : M / 2 ^ k % 2 = 1) : M % 2 ^ (k + 1) = M % 2 ^ k + 2 ^ k := by
  rw [Nat.pow_succ, Nat.mod_mul, h, Nat.mul_one]
theorem pow_dbl (k : Nat) (P : Pt) : padd (pmul (2 ^ k) P) (pmul (2 ^ k) P) = pmul (2 ^ (k + 1)) P := by
  rw [pmul_dbl, Nat.pow_succ]
theorem low_end {s : ByteArray} {k : Nat} (h1 : k ≤ 256) (h2 : k ≤ 8 * s.size) (h3 : ¬ (k < 256 ∧ k < 8 * s.size)) : leN (bl s) % 2 ^ k = lowN s := by
  unfold lowN
  by_cases h : k = 256
  · rw [h]
  · have e : k = 8 * s.size := by omega
    have hl := leN_lt (bl_lt s)
    rw [bl_len, show (256 : Nat) = 2 ^ 8 from rfl, ← Nat.pow_mul, ← e] at hl
    rw [Nat.mod_eq_of_lt hl, Nat.mod_eq_of_lt (Nat.lt_of_lt_of_le hl (Nat.pow_le_pow_right (by decide) h1))]
set_option maxRecDepth 100000 in
set_option maxHeartbeats 4000000 in
theorem rpmul_v {P : Pt} {s : ByteArray} {x y : Value} (hx : RfV P x) (hy : isS s y) (hs : s.size ≤ 140737488355328) (w : World) : Calls Try.prog 22 #[x, y] w (Gives w (RfV (pmul (lowN s) P))) := by
  obtain ⟨X2, Y2, Z2, h2, rfl⟩ := hx
  obtain rfl : y = .string s := hy
  have RR2 := Lib.hid h2
  have HS := Lib.hid hs
  have HM := Lib.hid (fun j => bit_num s j)
  have HE := Lib.hid (fun (k : Nat) => low_end (s := s) (k := k))
  obtain ⟨M, hM⟩ : ∃ M, leN (bl s) = M := ⟨_, rfl⟩
  rw [hM] at HM HE
  clear h2 hs hM
  unfold rpS
  go_enter Try.func22, Try.ntmps22
  go_upto_region 0 with fail
  refine wp_region_list ?_
  refine wpList_run rfl (exec_box rfl rfl) ?_
  refine wpList_run rfl (exec_alloc_rp rfl) ?_
  refine wpList_nil ?_
  simp only [Act.put, List.setIfInBounds_toArray, List.set_cons_zero, List.set_cons_succ]
  obtain ⟨w1, g2, g4, hW, eg2, eg4, b2, b4, ht, hb2, hb4, ne2_4⟩ := start2 w 33 #[.string (toS (X2)), .string (toS (Y2)), .string (toS (Z2))] 33 #[.string ⟨#[]⟩, .string ⟨#[]⟩, .string ⟨#[]⟩]
  rw [← hW]
  rw [← eg4]
  rw [← eg2]
  have HT := Lib.hid ht
  have B2 := Lib.hid b2
  have HB2 := Lib.hid hb2
  have B4 := Lib.hid b4
  have HB4 := Lib.hid hb4
  have NE2_4 := Lib.hid ne2_4
  clear hW eg2 eg4 b2 b4 ht hb2 hb4 ne2_4
  go_upto_region 1 with fail
  refine wp_region_list (wpList_flowP 2 (lookW [(5, newS w1.heap.size 33 #[.string ⟨#[]⟩, .string ⟨#[]⟩, .string ⟨#[]⟩]), (7, pu (isV (rpS (toS (0)) (toS (1)) (toS (1)))))]) [] [7, 5] [7, 5] (by kernel_rfl) (by kernel_rfl) (by kernel_rfl) trivial ?_ ?_)
  · refine FStepsW.cons (FStepW.plain rfl fun a w hS hE => OpTo.call #[] rfl Try.func24 (by kernel_rfl) (by kernel_rfl) (args0 ..) ((rzero_v w).mono fun _ _ h => Gives.toW 7 rfl (fun _ _ h => h) h)) ?_
    refine FStepsW.cons (FStepW.plain rfl fun a w hS hE => OpTo.allocG 5 33 #[.string ⟨#[]⟩, .string ⟨#[]⟩, .string ⟨#[]⟩] rfl hS (exec_alloc_rp rfl) rfl) ?_
    exact FStepsW.nil
  intro f w2 hS hF
  obtain ⟨h7, h5, -⟩ := hF
  have e7 : f 7 = rpS (toS (0)) (toS (1)) (toS (1)) := h7
  clear h7
  obtain ⟨g5, e5, z5, b5⟩ := h5
  have NE2_5 := Lib.hid (ne_new B2.out b5)
  have NE4_5 := Lib.hid (ne_new B4.out b5)
  replace B2 := Lib.hid (B2.out.touch hS notin_nil)
  replace B4 := Lib.hid (B4.out.touch hS notin_nil)
  have B5 := Lib.hid z5
  have HB5 := Lib.hid (Nat.le_trans HT.out.size b5)
  clear z5 b5
  replace HT := Lib.hid (HT.out.trans hS)
  clear hS
  simp only [setAll, List.setIfInBounds_toArray, List.set_cons_zero, List.set_cons_succ, e7, e5]
  show wpList _ _ _ [_] _ _
  refine wpList_store_row rfl 33 (.tmp 5) (.tmp 7) rfl g5 #[.string (toS (0)), .string (toS (1)), .string (toS (1))] rfl rfl 33 #[.string ⟨#[]⟩, .string ⟨#[]⟩, .string ⟨#[]⟩] B5.out infoR rfl (rp_one ..) ?_
  refine wpList_nil ?_
  simp only [Act.put]
  have B2' := (B2.out.frow NE2_5.out #[.string (toS (0)), .string (toS (1)), .string (toS (1))])
  have B4' := (B4.out.frow NE4_5.out #[.string (toS (0)), .string (toS (1)), .string (toS (1))])
  have B5' := (B5.out.setRow #[.string (toS (0)), .string (toS (1)), .string (toS (1))])
  have HT' := (HT.out.setRowE (.inr HB5.out) #[.string (toS (0)), .string (toS (1)), .string (toS (1))])
  obtain ⟨w3, hw3⟩ : ∃ w3, w3 = (w2.setRow g5 #[.string (toS (0)), .string (toS (1)), .string (toS (1))]) := ⟨_, rfl⟩
  rw [← hw3] at HT' B2' B4' B5'
  rw [← hw3]
  clear hw3 HT B2 B4 B5
  have B2 := Lib.hid B2'
  clear B2'
  have B4 := Lib.hid B4'
  clear B4'
  have B5 := Lib.hid B5'
  clear B5'
  have HT := Lib.hid HT'
  clear HT'
  clear e7 e5
  go_wp2_with fail
  go_loopw [6] (fun vi wr => ∃ (k X Y Z X' Y' Z' : Nat), k ≤ 256 ∧ k ≤ 8 * s.size ∧ vi = .int .i64 (k : Int) ∧ RRep (pmul (M % 2 ^ k) P) X Y Z ∧ RRep (pmul (2 ^ k) P) X' Y' Z' ∧ Blk wr g5 33 #[.string (toS X), .string (toS Y), .string (toS Z)] ∧ Blk wr g2 33 #[.string (toS X'), .string (toS Y'), .string (toS Z')] ∧ Blk wr g4 33 #[.string ⟨#[]⟩, .string ⟨#[]⟩, .string ⟨#[]⟩] ∧ Touch [] w wr) (fun vi _ => 256 - (intOf vi).toNat)
  case atStart => exact ⟨0, 0, 1, 1, X2, Y2, Z2, by omega, by omega, rfl, by rw [Nat.pow_zero, Nat.mod_one]; exact rrep_zero, by rw [Nat.pow_zero, show pmul 1 P = P from ed.one_mul P]; exact RR2.out, B5.out, B2.out, B4.out, HT.out⟩
  case round =>
    clear B5 B2 B4 HT
    obtain ⟨k, X5, Y5, Z5, X6, Y6, Z6, hk, hk8, rfl, hP5, hP6, h5, h2, h4, hT⟩ := hrel
    have RR5 := Lib.hid hP5
    have RR6 := Lib.hid hP6
    have B5 := Lib.hid h5
    have B2 := Lib.hid h2
    have B4 := Lib.hid h4
    have HT := Lib.hid hT
    clear hP5 hP6 h5 h2 h4 hT
    rename World => wq
    by_cases hc : k < 256 ∧ k < 8 * s.size
    case neg =>
      have HL := Lib.hid (HE.out k hk hk8 hc)
      have ht : (decide ((k : Int) < 256) && decide ((k : Int) < 8 * (s.size : Int))) = false := by
        rw [Bool.and_eq_false_iff, decide_eq_false_iff_not, decide_eq_false_iff_not]
        omega
      have HK := Lib.hid hk
      clear hk hk8
      by_cases hl : k < 256
      case pos =>
        have K9 := Lib.hid (show decide ((k : Int) < 256) = true from decide_eq_true (by omega))
        have K15 := Lib.hid (show decide ((k : Int) < 8 * (s.size : Int)) = false from decide_eq_false (by omega))
        have K14 := Lib.hid (show IntKind.i64.wrap (8 * (s.size : Int)) = 8 * (s.size : Int) from IntWalk.i64_in _ (by have := HS.out; omega))
        clear hc ht hl
        go_upto_region 3 with fail
        refine wp_region_list (wpList_flowP 9 (lookW [(1, pu (isS (s))), (6, pu (isV (.int .i64 ((k : Int))))), (8, pu (isV (.int .i64 ((k : Int))))), (9, pu (isB true)), (10, pu (isB true)), (11, pu (isV (.int .i64 ((k : Int))))), (12, pu (isS (s))), (13, pu (isV (.int .i64 (((s).size : Int))))), (14, pu (isV (.int .i64 (8 * (s.size : Int))))), (15, pu (isB false)), (16, pu (isB false))]) [1, 6] [8, 9, 10, 11, 12, 13, 14, 15, 16] [16] (by kernel_rfl) (by kernel_rfl) (by kernel_rfl) ⟨rfl, rfl, trivial⟩ ?_ ?_)
        · refine FStepsW.cons (FStepW.plain rfl fun a w hS hE => OpTo.move rfl ⟨dOfW.of 8 rfl (hE 6 (by kernel_rfl)), Touch.refl _ _⟩) ?_
          refine FStepsW.cons (FStepW.plain rfl fun a w hS hE => OpTo.ltI ((k : Int)) (256) rfl (hE 8 (by kernel_rfl)) rfl ⟨dOfW.of 9 rfl (by rw [K9.out]; rfl), Touch.refl _ _⟩) ?_
          refine FStepsW.cons (FStepW.plain rfl fun a w hS hE => OpTo.move rfl ⟨dOfW.of 10 rfl (hE 9 (by kernel_rfl)), Touch.refl _ _⟩) ?_
          refine FStepsW.cons (FStepW.go 10 rfl rfl (fun _ _ h => h) fun a w hS hE => OpTo.move rfl ⟨dOfW.of 11 rfl (hE 6 (by kernel_rfl)), Touch.refl _ _⟩) ?_
          refine FStepsW.cons (FStepW.go 10 rfl rfl (fun _ _ h => h) fun a w hS hE => OpTo.move rfl ⟨dOfW.of 12 rfl (hE 1 (by kernel_rfl)), Touch.refl _ _⟩) ?_
          refine FStepsW.cons (FStepW.go 10 rfl rfl (fun _ _ h => h) fun a w hS hE => OpTo.lenS Try.underlying9 (s) rfl (hE 12 (by kernel_rfl)) ⟨dOfW.of 13 rfl rfl, Touch.refl _ _⟩) ?_
          refine FStepsW.cons (FStepW.go 10 rfl rfl (fun _ _ h => h) fun a w hS hE => OpTo.mulI (8) (((s).size : Int)) (8 * (s.size : Int)) rfl rfl (hE 13 (by kernel_rfl)) K14.out ⟨dOfW.of 14 rfl rfl, Touch.refl _ _⟩) ?_
          refine FStepsW.cons (FStepW.go 10 rfl rfl (fun _ _ h => h) fun a w hS hE => OpTo.ltI ((k : Int)) (8 * (s.size : Int)) rfl (hE 11 (by kernel_rfl)) (hE 14 (by kernel_rfl)) ⟨dOfW.of 15 rfl (by rw [K15.out]; rfl), Touch.refl _ _⟩) ?_
          refine FStepsW.cons (FStepW.plain rfl fun a w hS hE => OpTo.pick true rfl (hE 10 (by kernel_rfl)) ⟨dOfW.of 16 rfl (hE 15 (by kernel_rfl)), Touch.refl _ _⟩) ?_
          exact FStepsW.nil
        intro f w4 hS hF
        obtain ⟨h16, -⟩ := hF
        have e16 : f 16 = .bool false := h16
        clear h16
        replace B2 := Lib.hid (B2.out.touch hS notin_nil)
        replace B5 := Lib.hid (B5.out.touch hS notin_nil)
        replace B4 := Lib.hid (B4.out.touch hS notin_nil)
        replace HT := Lib.hid (HT.out.trans hS)
        clear hS
        simp only [setAll, List.setIfInBounds_toArray, List.set_cons_zero, List.set_cons_succ, e16]
        show wpList _ _ _ [] _ _
        refine wpList_nil ?_
        clear e16
        go_upto_region 8 with fail
        refine wp_region_list (wpList_flowP 1 (lookW [(5, pu (isP (g5))), (29, pu (RfV (pmul (M % 2 ^ k) P)))]) [5] [29] [29] (by kernel_rfl) (by kernel_rfl) (by kernel_rfl) ⟨rfl, trivial⟩ ?_ ?_)
        · refine FStepsW.cons (FStepW.plain rfl fun a w hS hE => OpTo.rdR 29 (.tmp 5) rfl rfl (g5) (hE 5 (by kernel_rfl)) (B5.out.touch hS notin_nil) RR5.out (fun _ h => h)) ?_
          exact FStepsW.nil
        intro f w5 hS hF
        obtain ⟨h29, -⟩ := hF
        obtain ⟨X29, Y29, Z29, rr29, e29⟩ := h29
        have RR29 := Lib.hid rr29
        clear rr29
        replace B2 := Lib.hid (B2.out.touch hS notin_nil)
        replace B5 := Lib.hid (B5.out.touch hS notin_nil)
        replace B4 := Lib.hid (B4.out.touch hS notin_nil)
        replace HT := Lib.hid (HT.out.trans hS)
        clear hS
        simp only [setAll, List.setIfInBounds_toArray, List.set_cons_zero, List.set_cons_succ, e29]
        show wpList _ _ _ [_] _ _
        refine wpList_store_row rfl 33 (.tmp 4) (.tmp 29) rfl g4 #[.string (toS X29), .string (toS Y29), .string (toS Z29)] rfl rfl 33 #[.string ⟨#[]⟩, .string ⟨#[]⟩, .string ⟨#[]⟩] B4.out infoR rfl (rp_one ..) ?_
        refine wpList_nil ?_
        simp only [Act.put]
        have B2' := (B2.out.frow NE2_4.out #[.string (toS X29), .string (toS Y29), .string (toS Z29)])
        have B5' := (B5.out.frow (Ne.symm NE4_5.out) #[.string (toS X29), .string (toS Y29), .string (toS Z29)])
        have B4' := (B4.out.setRow #[.string (toS X29), .string (toS Y29), .string (toS Z29)])
        have HT' := (HT.out.setRowE (.inr HB4.out) #[.string (toS X29), .string (toS Y29), .string (toS Z29)])
        obtain ⟨w6, hw6⟩ : ∃ w6, w6 = (w5.setRow g4 #[.string (toS X29), .string (toS Y29), .string (toS Z29)]) := ⟨_, rfl⟩
        rw [← hw6] at HT' B2' B5' B4'
        rw [← hw6]
        clear hw6 HT B2 B5 B4
        have B2 := Lib.hid B2'
        clear B2'
        have B5 := Lib.hid B5'
        clear B5'
        have B4 := Lib.hid B4'
        clear B4'
        have HT := Lib.hid HT'
        clear HT'
        clear e29
        go_wp2_with fail
        have hr := RR29.out
        rw [HL.out] at hr
        exact rp_ret Try.results22 rfl 33 B4.out HT.out ⟨_, _, _, hr, rfl⟩
      case neg =>
        have K9 := Lib.hid (show decide ((k : Int) < 256) = false from decide_eq_false (by omega))
        clear hc ht hl
        go_upto_region 3 with fail
        refine wp_region_list (wpList_flowP 9 (lookW [(1, pu (isS (s))), (6, pu (isV (.int .i64 ((k : Int))))), (8, pu (isV (.int .i64 ((k : Int))))), (9, pu (isB false)), (10, pu (isB false)), (11, pu (isU)), (12, pu (isU)), (13, pu (isU)), (14, pu (isU)), (15, pu (isU)), (16, pu (isB false))]) [1, 6] [8, 9, 10, 11, 12, 13, 14, 15, 16] [16] (by kernel_rfl) (by kernel_rfl) (by kernel_rfl) ⟨rfl, rfl, trivial⟩ ?_ ?_)
        · refine FStepsW.cons (FStepW.plain rfl fun a w hS hE => OpTo.move rfl ⟨dOfW.of 8 rfl (hE 6 (by kernel_rfl)), Touch.refl _ _⟩) ?_
          refine FStepsW.cons (FStepW.plain rfl fun a w hS hE => OpTo.ltI ((k : Int)) (256) rfl (hE 8 (by kernel_rfl)) rfl ⟨dOfW.of 9 rfl (by rw [K9.out]; rfl), Touch.refl _ _⟩) ?_
          refine FStepsW.cons (FStepW.plain rfl fun a w hS hE => OpTo.move rfl ⟨dOfW.of 10 rfl (hE 9 (by kernel_rfl)), Touch.refl _ _⟩) ?_
          refine FStepsW.cons (FStepW.no 10 rfl rfl (fun _ _ h => h) (fun _ => dOfW.of 11 rfl rfl)) ?_
          refine FStepsW.cons (FStepW.no 10 rfl rfl (fun _ _ h => h) (fun _ => dOfW.of 12 rfl rfl)) ?_
          refine FStepsW.cons (FStepW.no 10 rfl rfl (fun _ _ h => h) (fun _ => dOfW.of 13 rfl rfl)) ?_
          refine FStepsW.cons (FStepW.no 10 rfl rfl (fun _ _ h => h) (fun _ => dOfW.of 14 rfl rfl)) ?_
          refine FStepsW.cons (FStepW.no 10 rfl rfl (fun _ _ h => h) (fun _ => dOfW.of 15 rfl rfl)) ?_
          refine FStepsW.cons (FStepW.plain rfl fun a w hS hE => OpTo.pick false rfl (hE 10 (by kernel_rfl)) ⟨dOfW.of 16 rfl (Eq.refl (Value.bool false)), Touch.refl _ _⟩) ?_
          exact FStepsW.nil
        intro f w4 hS hF
        obtain ⟨h16, -⟩ := hF
        have e16 : f 16 = .bool false := h16
        clear h16
        replace B2 := Lib.hid (B2.out.touch hS notin_nil)
        replace B5 := Lib.hid (B5.out.touch hS notin_nil)
        replace B4 := Lib.hid (B4.out.touch hS notin_nil)
        replace HT := Lib.hid (HT.out.trans hS)
        clear hS
        simp only [setAll, List.setIfInBounds_toArray, List.set_cons_zero, List.set_cons_succ, e16]
        show wpList _ _ _ [] _ _
        refine wpList_nil ?_
        clear e16
        go_upto_region 8 with fail
        refine wp_region_list (wpList_flowP 1 (lookW [(5, pu (isP (g5))), (29, pu (RfV (pmul (M % 2 ^ k) P)))]) [5] [29] [29] (by kernel_rfl) (by kernel_rfl) (by kernel_rfl) ⟨rfl, trivial⟩ ?_ ?_)
        · refine FStepsW.cons (FStepW.plain rfl fun a w hS hE => OpTo.rdR 29 (.tmp 5) rfl rfl (g5) (hE 5 (by kernel_rfl)) (B5.out.touch hS notin_nil) RR5.out (fun _ h => h)) ?_
          exact FStepsW.nil
        intro f w5 hS hF
        obtain ⟨h29, -⟩ := hF
        obtain ⟨X29, Y29, Z29, rr29, e29⟩ := h29
        have RR29 := Lib.hid rr29
        clear rr29
        replace B2 := Lib.hid (B2.out.touch hS notin_nil)
        replace B5 := Lib.hid (B5.out.touch hS notin_nil)
        replace B4 := Lib.hid (B4.out.touch hS notin_nil)
        replace HT := Lib.hid (HT.out.trans hS)
        clear hS
        simp only [setAll, List.setIfInBounds_toArray, List.set_cons_zero, List.set_cons_succ, e29]
        show wpList _ _ _ [_] _ _
        refine wpList_store_row rfl 33 (.tmp 4) (.tmp 29) rfl g4 #[.string (toS X29), .string (toS Y29), .string (toS Z29)] rfl rfl 33 #[.string ⟨#[]⟩, .string ⟨#[]⟩, .string ⟨#[]⟩] B4.out infoR rfl (rp_one ..) ?_
        refine wpList_nil ?_
        simp only [Act.put]
        have B2' := (B2.out.frow NE2_4.out #[.string (toS X29), .string (toS Y29), .string (toS Z29)])
        have B5' := (B5.out.frow (Ne.symm NE4_5.out) #[.string (toS X29), .string (toS Y29), .string (toS Z29)])
        have B4' := (B4.out.setRow #[.string (toS X29), .string (toS Y29), .string (toS Z29)])
        have HT' := (HT.out.setRowE (.inr HB4.out) #[.string (toS X29), .string (toS Y29), .string (toS Z29)])
        obtain ⟨w6, hw6⟩ : ∃ w6, w6 = (w5.setRow g4 #[.string (toS X29), .string (toS Y29), .string (toS Z29)]) := ⟨_, rfl⟩
        rw [← hw6] at HT' B2' B5' B4'
        rw [← hw6]
        clear hw6 HT B2 B5 B4
        have B2 := Lib.hid B2'
        clear B2'
        have B5 := Lib.hid B5'
        clear B5'
        have B4 := Lib.hid B4'
        clear B4'
        have HT := Lib.hid HT'
        clear HT'
        clear e29
        go_wp2_with fail
        have hr := RR29.out
        rw [HL.out] at hr
        exact rp_ret Try.results22 rfl 33 B4.out HT.out ⟨_, _, _, hr, rfl⟩
    case pos =>
      have K9 := Lib.hid (show decide ((k : Int) < 256) = true from decide_eq_true (by omega))
      have K15 := Lib.hid (show decide ((k : Int) < 8 * (s.size : Int)) = true from decide_eq_true (by omega))
      have K14 := Lib.hid (show IntKind.i64.wrap (8 * (s.size : Int)) = 8 * (s.size : Int) from IntWalk.i64_in _ (by have := HS.out; omega))
      have HC := Lib.hid hc
      clear hc hk hk8
      go_upto_region 3 with fail
      refine wp_region_list (wpList_flowP 9 (lookW [(1, pu (isS (s))), (6, pu (isV (.int .i64 ((k : Int))))), (8, pu (isV (.int .i64 ((k : Int))))), (9, pu (isB true)), (10, pu (isB true)), (11, pu (isV (.int .i64 ((k : Int))))), (12, pu (isS (s))), (13, pu (isV (.int .i64 (((s).size : Int))))), (14, pu (isV (.int .i64 (8 * (s.size : Int))))), (15, pu (isB true)), (16, pu (isB true))]) [1, 6] [8, 9, 10, 11, 12, 13, 14, 15, 16] [16] (by kernel_rfl) (by kernel_rfl) (by kernel_rfl) ⟨rfl, rfl, trivial⟩ ?_ ?_)
      · refine FStepsW.cons (FStepW.plain rfl fun a w hS hE => OpTo.move rfl ⟨dOfW.of 8 rfl (hE 6 (by kernel_rfl)), Touch.refl _ _⟩) ?_
        refine FStepsW.cons (FStepW.plain rfl fun a w hS hE => OpTo.ltI ((k : Int)) (256) rfl (hE 8 (by kernel_rfl)) rfl ⟨dOfW.of 9 rfl (by rw [K9.out]; rfl), Touch.refl _ _⟩) ?_
        refine FStepsW.cons (FStepW.plain rfl fun a w hS hE => OpTo.move rfl ⟨dOfW.of 10 rfl (hE 9 (by kernel_rfl)), Touch.refl _ _⟩) ?_
        refine FStepsW.cons (FStepW.go 10 rfl rfl (fun _ _ h => h) fun a w hS hE => OpTo.move rfl ⟨dOfW.of 11 rfl (hE 6 (by kernel_rfl)), Touch.refl _ _⟩) ?_
        refine FStepsW.cons (FStepW.go 10 rfl rfl (fun _ _ h => h) fun a w hS hE => OpTo.move rfl ⟨dOfW.of 12 rfl (hE 1 (by kernel_rfl)), Touch.refl _ _⟩) ?_
        refine FStepsW.cons (FStepW.go 10 rfl rfl (fun _ _ h => h) fun a w hS hE => OpTo.lenS Try.underlying9 (s) rfl (hE 12 (by kernel_rfl)) ⟨dOfW.of 13 rfl rfl, Touch.refl _ _⟩) ?_
        refine FStepsW.cons (FStepW.go 10 rfl rfl (fun _ _ h => h) fun a w hS hE => OpTo.mulI (8) (((s).size : Int)) (8 * (s.size : Int)) rfl rfl (hE 13 (by kernel_rfl)) K14.out ⟨dOfW.of 14 rfl rfl, Touch.refl _ _⟩) ?_
        refine FStepsW.cons (FStepW.go 10 rfl rfl (fun _ _ h => h) fun a w hS hE => OpTo.ltI ((k : Int)) (8 * (s.size : Int)) rfl (hE 11 (by kernel_rfl)) (hE 14 (by kernel_rfl)) ⟨dOfW.of 15 rfl (by rw [K15.out]; rfl), Touch.refl _ _⟩) ?_
        refine FStepsW.cons (FStepW.plain rfl fun a w hS hE => OpTo.pick true rfl (hE 10 (by kernel_rfl)) ⟨dOfW.of 16 rfl (hE 15 (by kernel_rfl)), Touch.refl _ _⟩) ?_
        exact FStepsW.nil
      intro f w7 hS hF
      obtain ⟨h16, -⟩ := hF
      have e16 : f 16 = .bool true := h16
      clear h16
      replace B2 := Lib.hid (B2.out.touch hS notin_nil)
      replace B5 := Lib.hid (B5.out.touch hS notin_nil)
      replace B4 := Lib.hid (B4.out.touch hS notin_nil)
      replace HT := Lib.hid (HT.out.trans hS)
      clear hS
      simp only [setAll, List.setIfInBounds_toArray, List.set_cons_zero, List.set_cons_succ, e16]
      show wpList _ _ _ [] _ _
      refine wpList_nil ?_
      clear e16
      go_upto_region 5 with fail
      rcases Nat.mod_two_eq_zero_or_one (M / 2 ^ k) with hb | hb
      · skip
        have HBit := Lib.hid (show bitS s (k : Int) = 0 by rw [HM.out k, hb]; rfl)
        have hb' := Lib.hid hb
        clear hb
        refine wp_region_list (wpList_flowP 4 (lookW [(1, pu (isS (s))), (6, pu (isV (.int .i64 ((k : Int))))), (19, pu (isS (s))), (20, pu (isV (.int .i64 ((k : Int))))), (21, pu (isV (.int .i64 (0)))), (22, pu (isB false))]) [1, 6] [19, 20, 21, 22] [22] (by kernel_rfl) (by kernel_rfl) (by kernel_rfl) ⟨rfl, rfl, trivial⟩ ?_ ?_)
        · refine FStepsW.cons (FStepW.plain rfl fun a w hS hE => OpTo.move rfl ⟨dOfW.of 19 rfl (hE 1 (by kernel_rfl)), Touch.refl _ _⟩) ?_
          refine FStepsW.cons (FStepW.plain rfl fun a w hS hE => OpTo.move rfl ⟨dOfW.of 20 rfl (hE 6 (by kernel_rfl)), Touch.refl _ _⟩) ?_
          refine FStepsW.cons (FStepW.plain rfl fun a w hS hE => OpTo.call #[a.tmps.getD 19 undef, a.tmps.getD 20 undef] rfl Try.func54 (by kernel_rfl) (by kernel_rfl) (args2 ..) ((rbit_v (hE 19 (by kernel_rfl)) (hE 20 (by kernel_rfl)) (Nat.lt_trans HC.out.1 (by decide)) HBit.out w).mono fun _ _ h => Gives.toW 21 rfl (fun _ _ h => h) h)) ?_
          refine FStepsW.cons (FStepW.plain rfl fun a w hS hE => OpTo.eqI .i64 (0) (1) rfl (hE 21 (by kernel_rfl)) rfl ⟨dOfW.of 22 rfl (by rw [(decide_eq_false (by decide) : decide ((0 : Int) = 1) = false)]; rfl), Touch.refl _ _⟩) ?_
          exact FStepsW.nil
        intro f w8 hS hF
        obtain ⟨h22, -⟩ := hF
        have e22 : f 22 = .bool false := h22
        clear h22
        replace B2 := Lib.hid (B2.out.touch hS notin_nil)
        replace B5 := Lib.hid (B5.out.touch hS notin_nil)
        replace B4 := Lib.hid (B4.out.touch hS notin_nil)
        replace HT := Lib.hid (HT.out.trans hS)
        clear hS
        simp only [setAll, List.setIfInBounds_toArray, List.set_cons_zero, List.set_cons_succ, e22]
        show wpList _ _ _ [] _ _
        refine wpList_nil ?_
        clear e22
        go_upto_region 7 with fail
        refine wp_region_list (wpList_flowP 3 (lookW [(2, pu (isP (g2))), (26, pu (RfV (pmul (2 ^ k) P))), (27, pu (RfV (pmul (2 ^ k) P))), (28, pu (RfV (padd (pmul (2 ^ k) P) (pmul (2 ^ k) P))))]) [2] [26, 27, 28] [28] (by kernel_rfl) (by kernel_rfl) (by kernel_rfl) ⟨rfl, trivial⟩ ?_ ?_)
        · refine FStepsW.cons (FStepW.plain rfl fun a w hS hE => OpTo.rdR 26 (.tmp 2) rfl rfl (g2) (hE 2 (by kernel_rfl)) (B2.out.touch hS notin_nil) RR6.out (fun _ h => h)) ?_
          refine FStepsW.cons (FStepW.plain rfl fun a w hS hE => OpTo.rdR 27 (.tmp 2) rfl rfl (g2) (hE 2 (by kernel_rfl)) (B2.out.touch hS notin_nil) RR6.out (fun _ h => h)) ?_
          refine FStepsW.cons (FStepW.plain rfl fun a w hS hE => OpTo.call #[a.tmps.getD 26 undef, a.tmps.getD 27 undef] rfl Try.func16 (by kernel_rfl) (by kernel_rfl) (args2 ..) ((rpadd_v (hE 26 (by kernel_rfl)) (hE 27 (by kernel_rfl)) w).mono fun _ _ h => Gives.toW 28 rfl (fun _ _ h => h) h)) ?_
          exact FStepsW.nil
        intro f w9 hS hF
        obtain ⟨h28, -⟩ := hF
        obtain ⟨X28, Y28, Z28, rr28, e28⟩ := h28
        have RR28 := Lib.hid rr28
        clear rr28
        replace B2 := Lib.hid (B2.out.touch hS notin_nil)
        replace B5 := Lib.hid (B5.out.touch hS notin_nil)
        replace B4 := Lib.hid (B4.out.touch hS notin_nil)
        replace HT := Lib.hid (HT.out.trans hS)
        clear hS
        simp only [setAll, List.setIfInBounds_toArray, List.set_cons_zero, List.set_cons_succ, e28]
        show wpList _ _ _ [_] _ _
        refine wpList_store_row rfl 33 (.tmp 2) (.tmp 28) rfl g2 #[.string (toS X28), .string (toS Y28), .string (toS Z28)] rfl rfl 33 #[.string (toS X6), .string (toS Y6), .string (toS Z6)] B2.out infoR rfl (rp_one ..) ?_
        refine wpList_nil ?_
        simp only [Act.put]
        have B2' := (B2.out.setRow #[.string (toS X28), .string (toS Y28), .string (toS Z28)])
        have B5' := (B5.out.frow (Ne.symm NE2_5.out) #[.string (toS X28), .string (toS Y28), .string (toS Z28)])
        have B4' := (B4.out.frow (Ne.symm NE2_4.out) #[.string (toS X28), .string (toS Y28), .string (toS Z28)])
        have HT' := (HT.out.setRowE (.inr HB2.out) #[.string (toS X28), .string (toS Y28), .string (toS Z28)])
        obtain ⟨w10, hw10⟩ : ∃ w10, w10 = (w9.setRow g2 #[.string (toS X28), .string (toS Y28), .string (toS Z28)]) := ⟨_, rfl⟩
        rw [← hw10] at HT' B2' B5' B4'
        rw [← hw10]
        clear hw10 HT B2 B5 B4
        have B2 := Lib.hid B2'
        clear B2'
        have B5 := Lib.hid B5'
        clear B5'
        have B4 := Lib.hid B4'
        clear B4'
        have HT := Lib.hid HT'
        clear HT'
        clear e28
        have hj := HC.out.1
        go_wp2_with fail
        go_roundw
        case rel => exact ⟨k + 1, _, _, _, _, _, _, by have := HC.out.1; omega, by have := HC.out.2; omega, by go_num, by rw [low_step0 hb'.out]; exact RR5.out, by have := RR28.out; rwa [pow_dbl] at this, B5.out, B2.out, B4.out, HT.out⟩
        case measure => simp [intOf]; try omega
      · skip
        have HBit := Lib.hid (show bitS s (k : Int) = 1 by rw [HM.out k, hb]; rfl)
        have hb' := Lib.hid hb
        clear hb
        refine wp_region_list (wpList_flowP 4 (lookW [(1, pu (isS (s))), (6, pu (isV (.int .i64 ((k : Int))))), (19, pu (isS (s))), (20, pu (isV (.int .i64 ((k : Int))))), (21, pu (isV (.int .i64 (1)))), (22, pu (isB true))]) [1, 6] [19, 20, 21, 22] [22] (by kernel_rfl) (by kernel_rfl) (by kernel_rfl) ⟨rfl, rfl, trivial⟩ ?_ ?_)
        · refine FStepsW.cons (FStepW.plain rfl fun a w hS hE => OpTo.move rfl ⟨dOfW.of 19 rfl (hE 1 (by kernel_rfl)), Touch.refl _ _⟩) ?_
          refine FStepsW.cons (FStepW.plain rfl fun a w hS hE => OpTo.move rfl ⟨dOfW.of 20 rfl (hE 6 (by kernel_rfl)), Touch.refl _ _⟩) ?_
          refine FStepsW.cons (FStepW.plain rfl fun a w hS hE => OpTo.call #[a.tmps.getD 19 undef, a.tmps.getD 20 undef] rfl Try.func54 (by kernel_rfl) (by kernel_rfl) (args2 ..) ((rbit_v (hE 19 (by kernel_rfl)) (hE 20 (by kernel_rfl)) (Nat.lt_trans HC.out.1 (by decide)) HBit.out w).mono fun _ _ h => Gives.toW 21 rfl (fun _ _ h => h) h)) ?_
          refine FStepsW.cons (FStepW.plain rfl fun a w hS hE => OpTo.eqI .i64 (1) (1) rfl (hE 21 (by kernel_rfl)) rfl ⟨dOfW.of 22 rfl (by rw [(decide_eq_true (by decide) : decide ((1 : Int) = 1) = true)]; rfl), Touch.refl _ _⟩) ?_
          exact FStepsW.nil
        intro f w8 hS hF
        obtain ⟨h22, -⟩ := hF
        have e22 : f 22 = .bool true := h22
        clear h22
        replace B2 := Lib.hid (B2.out.touch hS notin_nil)
        replace B5 := Lib.hid (B5.out.touch hS notin_nil)
        replace B4 := Lib.hid (B4.out.touch hS notin_nil)
        replace HT := Lib.hid (HT.out.trans hS)
        clear hS
        simp only [setAll, List.setIfInBounds_toArray, List.set_cons_zero, List.set_cons_succ, e22]
        show wpList _ _ _ [] _ _
        refine wpList_nil ?_
        clear e22
        go_upto_region 6 with fail
        refine wp_region_list (wpList_flowP 3 (lookW [(2, pu (isP (g2))), (5, pu (isP (g5))), (23, pu (RfV (pmul (M % 2 ^ k) P))), (24, pu (RfV (pmul (2 ^ k) P))), (25, pu (RfV (padd (pmul (M % 2 ^ k) P) (pmul (2 ^ k) P))))]) [2, 5] [23, 24, 25] [25] (by kernel_rfl) (by kernel_rfl) (by kernel_rfl) ⟨rfl, rfl, trivial⟩ ?_ ?_)
        · refine FStepsW.cons (FStepW.plain rfl fun a w hS hE => OpTo.rdR 23 (.tmp 5) rfl rfl (g5) (hE 5 (by kernel_rfl)) (B5.out.touch hS notin_nil) RR5.out (fun _ h => h)) ?_
          refine FStepsW.cons (FStepW.plain rfl fun a w hS hE => OpTo.rdR 24 (.tmp 2) rfl rfl (g2) (hE 2 (by kernel_rfl)) (B2.out.touch hS notin_nil) RR6.out (fun _ h => h)) ?_
          refine FStepsW.cons (FStepW.plain rfl fun a w hS hE => OpTo.call #[a.tmps.getD 23 undef, a.tmps.getD 24 undef] rfl Try.func16 (by kernel_rfl) (by kernel_rfl) (args2 ..) ((rpadd_v (hE 23 (by kernel_rfl)) (hE 24 (by kernel_rfl)) w).mono fun _ _ h => Gives.toW 25 rfl (fun _ _ h => h) h)) ?_
          exact FStepsW.nil
        intro f w9 hS hF
        obtain ⟨h25, -⟩ := hF
        obtain ⟨X25, Y25, Z25, rr25, e25⟩ := h25
        have RR25 := Lib.hid rr25
        clear rr25
        replace B2 := Lib.hid (B2.out.touch hS notin_nil)
        replace B5 := Lib.hid (B5.out.touch hS notin_nil)
        replace B4 := Lib.hid (B4.out.touch hS notin_nil)
        replace HT := Lib.hid (HT.out.trans hS)
        clear hS
        simp only [setAll, List.setIfInBounds_toArray, List.set_cons_zero, List.set_cons_succ, e25]
        show wpList _ _ _ [_] _ _
        refine wpList_store_row rfl 33 (.tmp 5) (.tmp 25) rfl g5 #[.string (toS X25), .string (toS Y25), .string (toS Z25)] rfl rfl 33 #[.string (toS X5), .string (toS Y5), .string (toS Z5)] B5.out infoR rfl (rp_one ..) ?_
        refine wpList_nil ?_
        simp only [Act.put]
        have B2' := (B2.out.frow NE2_5.out #[.string (toS X25), .string (toS Y25), .string (toS Z25)])
        have B5' := (B5.out.setRow #[.string (toS X25), .string (toS Y25), .string (toS Z25)])
        have B4' := (B4.out.frow NE4_5.out #[.string (toS X25), .string (toS Y25), .string (toS Z25)])
        have HT' := (HT.out.setRowE (.inr HB5.out) #[.string (toS X25), .string (toS Y25), .string (toS Z25)])
        obtain ⟨w10, hw10⟩ : ∃ w10, w10 = (w9.setRow g5 #[.string (toS X25), .string (toS Y25), .string (toS Z25)]) := ⟨_, rfl⟩
        rw [← hw10] at HT' B2' B5' B4'
        rw [← hw10]
        clear hw10 HT B2 B5 B4
        have B2 := Lib.hid B2'
        clear B2'
        have B5 := Lib.hid B5'
        clear B5'
        have B4 := Lib.hid B4'
        clear B4'
        have HT := Lib.hid HT'
        clear HT'
        clear e25
        go_upto_region 7 with fail
        refine wp_region_list (wpList_flowP 3 (lookW [(2, pu (isP (g2))), (26, pu (RfV (pmul (2 ^ k) P))), (27, pu (RfV (pmul (2 ^ k) P))), (28, pu (RfV (padd (pmul (2 ^ k) P) (pmul (2 ^ k) P))))]) [2] [26, 27, 28] [28] (by kernel_rfl) (by kernel_rfl) (by kernel_rfl) ⟨rfl, trivial⟩ ?_ ?_)
        · refine FStepsW.cons (FStepW.plain rfl fun a w hS hE => OpTo.rdR 26 (.tmp 2) rfl rfl (g2) (hE 2 (by kernel_rfl)) (B2.out.touch hS notin_nil) RR6.out (fun _ h => h)) ?_
          refine FStepsW.cons (FStepW.plain rfl fun a w hS hE => OpTo.rdR 27 (.tmp 2) rfl rfl (g2) (hE 2 (by kernel_rfl)) (B2.out.touch hS notin_nil) RR6.out (fun _ h => h)) ?_
          refine FStepsW.cons (FStepW.plain rfl fun a w hS hE => OpTo.call #[a.tmps.getD 26 undef, a.tmps.getD 27 undef] rfl Try.func16 (by kernel_rfl) (by kernel_rfl) (args2 ..) ((rpadd_v (hE 26 (by kernel_rfl)) (hE 27 (by kernel_rfl)) w).mono fun _ _ h => Gives.toW 28 rfl (fun _ _ h => h) h)) ?_
          exact FStepsW.nil
        intro f w11 hS hF
        obtain ⟨h28, -⟩ := hF
        obtain ⟨X28, Y28, Z28, rr28, e28⟩ := h28
        have RR28 := Lib.hid rr28
        clear rr28
        replace B2 := Lib.hid (B2.out.touch hS notin_nil)
        replace B5 := Lib.hid (B5.out.touch hS notin_nil)
        replace B4 := Lib.hid (B4.out.touch hS notin_nil)
        replace HT := Lib.hid (HT.out.trans hS)
        clear hS
        simp only [setAll, List.setIfInBounds_toArray, List.set_cons_zero, List.set_cons_succ, e28]
        show wpList _ _ _ [_] _ _
        refine wpList_store_row rfl 33 (.tmp 2) (.tmp 28) rfl g2 #[.string (toS X28), .string (toS Y28), .string (toS Z28)] rfl rfl 33 #[.string (toS X6), .string (toS Y6), .string (toS Z6)] B2.out infoR rfl (rp_one ..) ?_
        refine wpList_nil ?_
        simp only [Act.put]
        have B2' := (B2.out.setRow #[.string (toS X28), .string (toS Y28), .string (toS Z28)])
        have B5' := (B5.out.frow (Ne.symm NE2_5.out) #[.string (toS X28), .string (toS Y28), .string (toS Z28)])
        have B4' := (B4.out.frow (Ne.symm NE2_4.out) #[.string (toS X28), .string (toS Y28), .string (toS Z28)])
        have HT' := (HT.out.setRowE (.inr HB2.out) #[.string (toS X28), .string (toS Y28), .string (toS Z28)])
        obtain ⟨w12, hw12⟩ : ∃ w12, w12 = (w11.setRow g2 #[.string (toS X28), .string (toS Y28), .string (toS Z28)]) := ⟨_, rfl⟩
        rw [← hw12] at HT' B2' B5' B4'
        rw [← hw12]
        clear hw12 HT B2 B5 B4
        have B2 := Lib.hid B2'
        clear B2'
        have B5 := Lib.hid B5'
        clear B5'
        have B4 := Lib.hid B4'
        clear B4'
        have HT := Lib.hid HT'
        clear HT'
        clear e28
        have hj := HC.out.1
        go_wp2_with fail
        go_roundw
        case rel => exact ⟨k + 1, _, _, _, _, _, _, by have := HC.out.1; omega, by have := HC.out.2; omega, by go_num, by have := RR25.out; rwa [show padd (pmul (M % 2 ^ k) P) (pmul (2 ^ k) P) = pmul (M % 2 ^ (k + 1)) P by rw [low_step1 hb'.out]; exact (ed.mul_add _ _ P).symm] at this, by have := RR28.out; rwa [pow_dbl] at this, B5.out, B2.out, B4.out, HT.out⟩
        case measure => simp [intOf]; try omega
end Go.Proofs.Ytbgpgbfiadhddaa
