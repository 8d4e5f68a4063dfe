/- PtMul; PtPlain; PtSmall: joined. -/
import Derived.Test.YtbgpgbfiadhddaaDoorPtBit
import Derived.Test.YtbgpgbfiadhddaaDoorPtDecL
import Derived.Test.YtbgpgbfiadhddaaDoorPtPts
/- Point.Mul: as often as a number says, from the highest binary digit on. -/
namespace Go.Proofs.YtbgpgbfiadhddaaDoor
open Go Go.RowKit
/-- The number of a text's first 256 binary digits. -/
def lowN (s : ByteArray) : Nat := leN (bl s) % 2 ^ 256
theorem lowN_bit (s : ByteArray) {j : Nat} (hj : j < 256) : bitS s (j : Int) = ((lowN s / 2 ^ j % 2 : Nat) : Int) := by
  rw [bit_num]
  unfold lowN
  congr 1
  have e : (2 : Nat) ^ 256 = 2 ^ j * 2 ^ (256 - j) := by rw [← Nat.pow_add]; congr 1; omega
  have e2 : (2 : Nat) ^ (256 - j) = 2 * 2 ^ (255 - j) := by rw [← Nat.pow_succ']; congr 1; omega
  rw [e, Nat.mod_mul_right_div_self, e2, Nat.mod_mul_right_mod]
theorem lowN_top (s : ByteArray) : lowN s / 2 ^ 256 = 0 := Nat.div_eq_of_lt (Nat.mod_lt _ (Nat.two_pow_pos 256))
theorem bit_v {s : ByteArray} {j : Nat} {x y : Value} (hx : isS s x) (hy : isV (.int .i64 (j : Int)) y) {b : Int} (hj : j < 9223372036854775808) (hb : bitS s (j : Int) = b) (w : World) : Calls Tryd.prog 21 #[x, y] w (Gives w (isV (.int .i64 b))) := by
  obtain rfl : x = .string s := hx
  obtain rfl : y = .int .i64 (j : Int) := hy
  exact (bit_any s j (by omega) w).mono fun _ _ ⟨he, hw⟩ => ⟨_, he, by rw [hb]; rfl, hw ▸ Touch.refl _ _⟩
theorem pmul_dbl (n : Nat) (P : Pt) : padd (pmul n P) (pmul n P) = pmul (n * 2) P := by
  rw [Nat.mul_two]
  exact (ed.mul_add n n P).symm
theorem pmul_step0 {M j : Nat} (P : Pt) (h : M / 2 ^ j % 2 = 0) : padd (pmul (M / 2 ^ (j + 1)) P) (pmul (M / 2 ^ (j + 1)) P) = pmul (M / 2 ^ j) P := by
  rw [pmul_dbl, ← two_step M j, h]
  rfl
theorem pmul_step1 {M j : Nat} (P : Pt) (h : M / 2 ^ j % 2 = 1) : padd (padd (pmul (M / 2 ^ (j + 1)) P) (pmul (M / 2 ^ (j + 1)) P)) P = pmul (M / 2 ^ j) P := by
  rw [pmul_dbl, ← two_step M j, h]
  rfl
set_option maxRecDepth 100000 in
set_option maxHeartbeats 4000000 in
theorem pmul_v {P : Pt} {s : ByteArray} {x y : Value} (hx : PtV P x) (hy : isS s y) (w : World) : Calls Tryd.prog 7 #[x, y] w (Gives w (PtV (pmul (lowN s) P))) := by
  obtain ⟨b2, l2, h2, rfl⟩ := hx
  obtain rfl : y = .string s := hy
  have P2 := Lib.hid h2
  have HM := Lib.hid (fun j (hj : j < 256) => lowN_bit s hj)
  have HM0 := Lib.hid (lowN_top s)
  obtain ⟨M, hM⟩ : ∃ M, lowN s = M := ⟨_, rfl⟩
  rw [hM] at HM HM0 ⊢
  clear h2 hM
  unfold ptV
  go_enter Tryd.func7, Tryd.ntmps7
  go_upto_region 0 with fail
  refine wp_region_list ?_
  refine wpList_run rfl (exec_box rfl rfl) ?_
  refine wpList_run rfl (exec_alloc_pt rfl) ?_
  refine wpList_nil ?_
  simp only [Act.put, List.setIfInBounds_toArray, List.set_cons_zero, List.set_cons_succ]
  obtain ⟨w1, g2, g4, hW, eg2, eg4, b2, b4, ht, hb2, hb4, ne2_4⟩ := start2 w 29 (ptA b2 l2) 29 (ptA false zl)
  rw [← hW]
  rw [← eg4]
  rw [← eg2]
  have HT := Lib.hid ht
  have B2 := Lib.hid b2
  have HB2 := Lib.hid hb2
  have B4 := Lib.hid b4
  have HB4 := Lib.hid hb4
  have NE2_4 := Lib.hid ne2_4
  clear hW eg2 eg4 b2 b4 ht hb2 hb4 ne2_4
  go_upto_region 1 with fail
  refine wp_region_list (wpList_flowP 2 (lookW [(5, newS w1.heap.size 29 (ptA false zl)), (7, pu (PQv (0) (1) (1) (mulF (0) (1))))]) [] [7, 5] [7, 5] (by kernel_rfl) (by kernel_rfl) (by kernel_rfl) trivial ?_ ?_)
  · refine FStepsW.cons (FStepW.plain rfl fun a w hS hE => OpTo.call #[] rfl Tryd.func20 (by kernel_rfl) (by kernel_rfl) (args0 ..) ((zero_q w).mono fun _ _ h => Gives.toW 7 rfl (fun _ _ h => h) h)) ?_
    refine FStepsW.cons (FStepW.plain rfl fun a w hS hE => OpTo.allocG 5 29 (ptA false zl) rfl hS (exec_alloc_pt rfl) rfl) ?_
    exact FStepsW.nil
  intro f w2 hS hF
  obtain ⟨h7, h5, -⟩ := hF
  obtain ⟨l7, q7, e7⟩ := h7
  have Q7 := Lib.hid q7
  clear q7
  obtain ⟨g5, e5, z5, b5⟩ := h5
  have NE2_5 := Lib.hid (ne_new B2.out b5)
  have NE4_5 := Lib.hid (ne_new B4.out b5)
  replace B2 := Lib.hid (B2.out.touch hS notin_nil)
  replace B4 := Lib.hid (B4.out.touch hS notin_nil)
  have B5 := Lib.hid z5
  have HB5 := Lib.hid (Nat.le_trans HT.out.size b5)
  clear z5 b5
  replace HT := Lib.hid (HT.out.trans hS)
  clear hS
  simp only [setAll, List.setIfInBounds_toArray, List.set_cons_zero, List.set_cons_succ, e7, e5]
  show wpList _ _ _ [_] _ _
  refine wpList_store_row rfl 29 (.tmp 5) (.tmp 7) rfl g5 (ptA true l7) rfl rfl 29 (ptA false zl) B5.out (by rw [ptA_size Q7.out.len]; exact infoP) ((ptA_size zl_len).trans (ptA_size Q7.out.len).symm) (ptA_one true l7) ?_
  refine wpList_nil ?_
  simp only [Act.put]
  have B2' := (B2.out.frow NE2_5.out (ptA true l7))
  have B4' := (B4.out.frow NE4_5.out (ptA true l7))
  have B5' := (B5.out.setRow (ptA true l7))
  have HT' := (HT.out.setRowE (.inr HB5.out) (ptA true l7))
  obtain ⟨w3, hw3⟩ : ∃ w3, w3 = (w2.setRow g5 (ptA true l7)) := ⟨_, rfl⟩
  rw [← hw3] at HT' B2' B4' B5'
  rw [← hw3]
  clear hw3 HT B2 B4 B5
  have B2 := Lib.hid B2'
  clear B2'
  have B4 := Lib.hid B4'
  clear B4'
  have B5 := Lib.hid B5'
  clear B5'
  have HT := Lib.hid HT'
  clear HT'
  clear e7 e5
  go_wp2_with fail
  go_loopw [6] (fun vi wr => ∃ (k : Nat) (b5 : Bool) (l5 : List Int), k ≤ 256 ∧ vi = .int .i64 ((k : Int) - 1) ∧ PtL (pmul (M / 2 ^ k) P) b5 l5 ∧ Blk wr g5 29 (ptA b5 l5) ∧ Blk wr g2 29 (ptA b2 l2) ∧ Blk wr g4 29 (ptA false zl) ∧ Touch [] w wr) (fun vi _ => (intOf vi + 1).toNat)
  case atStart => exact ⟨256, true, l7, by omega, rfl, by rw [HM0.out]; exact .inl ⟨rfl, _, _, _, _, rep_zero, Q7.out⟩, B5.out, B2.out, B4.out, HT.out⟩
  case round =>
    clear B5 B2 B4 HT
    obtain ⟨k, b5, l5, hk, rfl, hP, h5, h2, h4, hT⟩ := hrel
    have P5 := Lib.hid hP
    have B5 := Lib.hid h5
    have B2 := Lib.hid h2
    have B4 := Lib.hid h4
    have HT := Lib.hid hT
    clear hP h5 h2 h4 hT
    rename World => wq
    by_cases hk0 : k = 0
    · skip
      subst hk0
      simp only [show ((0 : Nat) : Int) - 1 = -1 from rfl]
      go_upto_region 8 with fail
      refine wp_region_list (wpList_flowP 1 (lookW [(5, pu (isP (g5))), (22, pu (PtV (pmul (M / 2 ^ 0) P)))]) [5] [22] [22] (by kernel_rfl) (by kernel_rfl) (by kernel_rfl) ⟨rfl, trivial⟩ ?_ ?_)
      · refine FStepsW.cons (FStepW.plain rfl fun a w hS hE => OpTo.rdP 22 (.tmp 5) rfl rfl (g5) (hE 5 (by kernel_rfl)) (B5.out.touch hS notin_nil) P5.out (fun _ h => h)) ?_
        exact FStepsW.nil
      intro f w4 hS hF
      obtain ⟨h22, -⟩ := hF
      obtain ⟨b22, l22, q22, e22⟩ := h22
      have P22 := Lib.hid q22
      clear q22
      replace B2 := Lib.hid (B2.out.touch hS notin_nil)
      replace B5 := Lib.hid (B5.out.touch hS notin_nil)
      replace B4 := Lib.hid (B4.out.touch hS notin_nil)
      replace HT := Lib.hid (HT.out.trans hS)
      clear hS
      simp only [setAll, List.setIfInBounds_toArray, List.set_cons_zero, List.set_cons_succ, e22]
      show wpList _ _ _ [_] _ _
      refine wpList_store_row rfl 29 (.tmp 4) (.tmp 22) rfl g4 (ptA b22 l22) rfl rfl 29 (ptA false zl) B4.out (by rw [ptA_size P22.out.len]; exact infoP) ((ptA_size zl_len).trans (ptA_size P22.out.len).symm) (ptA_one b22 l22) ?_
      refine wpList_nil ?_
      simp only [Act.put]
      have B2' := (B2.out.frow NE2_4.out (ptA b22 l22))
      have B5' := (B5.out.frow (Ne.symm NE4_5.out) (ptA b22 l22))
      have B4' := (B4.out.setRow (ptA b22 l22))
      have HT' := (HT.out.setRowE (.inr HB4.out) (ptA b22 l22))
      obtain ⟨w5, hw5⟩ : ∃ w5, w5 = (w4.setRow g4 (ptA b22 l22)) := ⟨_, rfl⟩
      rw [← hw5] at HT' B2' B5' B4'
      rw [← hw5]
      clear hw5 HT B2 B5 B4
      have B2 := Lib.hid B2'
      clear B2'
      have B5 := Lib.hid B5'
      clear B5'
      have B4 := Lib.hid B4'
      clear B4'
      have HT := Lib.hid HT'
      clear HT'
      clear e22
      go_wp2_with fail
      exact pt_ret Tryd.results7 P22.out.len rfl 29 B4.out HT.out ⟨_, _, by have := P22.out; rwa [Nat.pow_zero, Nat.div_one] at this, rfl⟩
    · skip
      obtain ⟨j, rfl⟩ : ∃ j, k = j + 1 := ⟨k - 1, by omega⟩
      have e : ((j + 1 : Nat) : Int) - 1 = (j : Int) := by omega
      simp only [e]
      clear e hk0
      have hj : j < 256 := by omega
      have Hj := Lib.hid hj
      clear hk
      have ht : decide ((0 : Int) ≤ (j : Int)) = true := decide_eq_true (by omega)
      go_upto_region 5 with fail
      clear ht hj
      refine wp_region_list (wpList_flowP 3 (lookW [(5, pu (isP (g5))), (12, pu (PtV (pmul (M / 2 ^ (j + 1)) P))), (13, pu (PtV (pmul (M / 2 ^ (j + 1)) P))), (14, pu (PtV (padd (pmul (M / 2 ^ (j + 1)) P) (pmul (M / 2 ^ (j + 1)) P))))]) [5] [12, 13, 14] [14] (by kernel_rfl) (by kernel_rfl) (by kernel_rfl) ⟨rfl, trivial⟩ ?_ ?_)
      · refine FStepsW.cons (FStepW.plain rfl fun a w hS hE => OpTo.rdP 12 (.tmp 5) rfl rfl (g5) (hE 5 (by kernel_rfl)) (B5.out.touch hS notin_nil) P5.out (fun _ h => h)) ?_
        refine FStepsW.cons (FStepW.plain rfl fun a w hS hE => OpTo.rdP 13 (.tmp 5) rfl rfl (g5) (hE 5 (by kernel_rfl)) (B5.out.touch hS notin_nil) P5.out (fun _ h => h)) ?_
        refine FStepsW.cons (FStepW.plain rfl fun a w hS hE => OpTo.call #[a.tmps.getD 12 undef, a.tmps.getD 13 undef] rfl Tryd.func9 (by kernel_rfl) (by kernel_rfl) (args2 ..) ((padd_v (hE 12 (by kernel_rfl)) (hE 13 (by kernel_rfl)) w).mono fun _ _ h => Gives.toW 14 rfl (fun _ _ h => h) h)) ?_
        exact FStepsW.nil
      intro f w6 hS hF
      obtain ⟨h14, -⟩ := hF
      obtain ⟨b14, l14, q14, e14⟩ := h14
      have P14 := Lib.hid q14
      clear q14
      replace B2 := Lib.hid (B2.out.touch hS notin_nil)
      replace B5 := Lib.hid (B5.out.touch hS notin_nil)
      replace B4 := Lib.hid (B4.out.touch hS notin_nil)
      replace HT := Lib.hid (HT.out.trans hS)
      clear hS
      simp only [setAll, List.setIfInBounds_toArray, List.set_cons_zero, List.set_cons_succ, e14]
      show wpList _ _ _ [_] _ _
      refine wpList_store_row rfl 29 (.tmp 5) (.tmp 14) rfl g5 (ptA b14 l14) rfl rfl 29 (ptA b5 l5) B5.out (by rw [ptA_size P14.out.len]; exact infoP) ((ptA_size P5.out.len).trans (ptA_size P14.out.len).symm) (ptA_one b14 l14) ?_
      refine wpList_nil ?_
      simp only [Act.put]
      have B2' := (B2.out.frow NE2_5.out (ptA b14 l14))
      have B5' := (B5.out.setRow (ptA b14 l14))
      have B4' := (B4.out.frow NE4_5.out (ptA b14 l14))
      have HT' := (HT.out.setRowE (.inr HB5.out) (ptA b14 l14))
      obtain ⟨w7, hw7⟩ : ∃ w7, w7 = (w6.setRow g5 (ptA b14 l14)) := ⟨_, rfl⟩
      rw [← hw7] at HT' B2' B5' B4'
      rw [← hw7]
      clear hw7 HT B2 B5 B4
      have B2 := Lib.hid B2'
      clear B2'
      have B5 := Lib.hid B5'
      clear B5'
      have B4 := Lib.hid B4'
      clear B4'
      have HT := Lib.hid HT'
      clear HT'
      clear e14
      go_upto_region 6 with fail
      rcases Nat.mod_two_eq_zero_or_one (M / 2 ^ j) with hb | hb
      · skip
        have HBit := Lib.hid (show bitS s (j : Int) = 0 by rw [HM.out j Hj.out, hb]; rfl)
        have hb' := Lib.hid hb
        clear hb
        refine wp_region_list (wpList_flowP 4 (lookW [(1, pu (isS (s))), (6, pu (isV (.int .i64 ((j : Int))))), (15, pu (isS (s))), (16, pu (isV (.int .i64 ((j : Int))))), (17, pu (isV (.int .i64 (0)))), (18, pu (isB false))]) [1, 6] [15, 16, 17, 18] [18] (by kernel_rfl) (by kernel_rfl) (by kernel_rfl) ⟨rfl, rfl, trivial⟩ ?_ ?_)
        · refine FStepsW.cons (FStepW.plain rfl fun a w hS hE => OpTo.move rfl ⟨dOfW.of 15 rfl (hE 1 (by kernel_rfl)), Touch.refl _ _⟩) ?_
          refine FStepsW.cons (FStepW.plain rfl fun a w hS hE => OpTo.move rfl ⟨dOfW.of 16 rfl (hE 6 (by kernel_rfl)), Touch.refl _ _⟩) ?_
          refine FStepsW.cons (FStepW.plain rfl fun a w hS hE => OpTo.call #[a.tmps.getD 15 undef, a.tmps.getD 16 undef] rfl Tryd.func21 (by kernel_rfl) (by kernel_rfl) (args2 ..) ((bit_v (hE 15 (by kernel_rfl)) (hE 16 (by kernel_rfl)) (Nat.lt_trans Hj.out (by decide)) HBit.out w).mono fun _ _ h => Gives.toW 17 rfl (fun _ _ h => h) h)) ?_
          refine FStepsW.cons (FStepW.plain rfl fun a w hS hE => OpTo.eqI .i64 (0) (1) rfl (hE 17 (by kernel_rfl)) rfl ⟨dOfW.of 18 rfl (by rw [(decide_eq_false (by decide) : decide ((0 : Int) = 1) = false)]; rfl), Touch.refl _ _⟩) ?_
          exact FStepsW.nil
        intro f w8 hS hF
        obtain ⟨h18, -⟩ := hF
        have e18 : f 18 = .bool false := h18
        clear h18
        replace B2 := Lib.hid (B2.out.touch hS notin_nil)
        replace B5 := Lib.hid (B5.out.touch hS notin_nil)
        replace B4 := Lib.hid (B4.out.touch hS notin_nil)
        replace HT := Lib.hid (HT.out.trans hS)
        clear hS
        simp only [setAll, List.setIfInBounds_toArray, List.set_cons_zero, List.set_cons_succ, e18]
        show wpList _ _ _ [] _ _
        refine wpList_nil ?_
        clear e18
        have hj := Hj.out
        go_wp2_with fail
        go_roundw
        case rel => exact ⟨j, _, _, by have := Hj.out; omega, by go_num, by have := P14.out; rwa [pmul_step0 P hb'.out] at this, B5.out, B2.out, B4.out, HT.out⟩
        case measure => simp [intOf]; try omega
      · skip
        have HBit := Lib.hid (show bitS s (j : Int) = 1 by rw [HM.out j Hj.out, hb]; rfl)
        have hb' := Lib.hid hb
        clear hb
        refine wp_region_list (wpList_flowP 4 (lookW [(1, pu (isS (s))), (6, pu (isV (.int .i64 ((j : Int))))), (15, pu (isS (s))), (16, pu (isV (.int .i64 ((j : Int))))), (17, pu (isV (.int .i64 (1)))), (18, pu (isB true))]) [1, 6] [15, 16, 17, 18] [18] (by kernel_rfl) (by kernel_rfl) (by kernel_rfl) ⟨rfl, rfl, trivial⟩ ?_ ?_)
        · refine FStepsW.cons (FStepW.plain rfl fun a w hS hE => OpTo.move rfl ⟨dOfW.of 15 rfl (hE 1 (by kernel_rfl)), Touch.refl _ _⟩) ?_
          refine FStepsW.cons (FStepW.plain rfl fun a w hS hE => OpTo.move rfl ⟨dOfW.of 16 rfl (hE 6 (by kernel_rfl)), Touch.refl _ _⟩) ?_
          refine FStepsW.cons (FStepW.plain rfl fun a w hS hE => OpTo.call #[a.tmps.getD 15 undef, a.tmps.getD 16 undef] rfl Tryd.func21 (by kernel_rfl) (by kernel_rfl) (args2 ..) ((bit_v (hE 15 (by kernel_rfl)) (hE 16 (by kernel_rfl)) (Nat.lt_trans Hj.out (by decide)) HBit.out w).mono fun _ _ h => Gives.toW 17 rfl (fun _ _ h => h) h)) ?_
          refine FStepsW.cons (FStepW.plain rfl fun a w hS hE => OpTo.eqI .i64 (1) (1) rfl (hE 17 (by kernel_rfl)) rfl ⟨dOfW.of 18 rfl (by rw [(decide_eq_true (by decide) : decide ((1 : Int) = 1) = true)]; rfl), Touch.refl _ _⟩) ?_
          exact FStepsW.nil
        intro f w8 hS hF
        obtain ⟨h18, -⟩ := hF
        have e18 : f 18 = .bool true := h18
        clear h18
        replace B2 := Lib.hid (B2.out.touch hS notin_nil)
        replace B5 := Lib.hid (B5.out.touch hS notin_nil)
        replace B4 := Lib.hid (B4.out.touch hS notin_nil)
        replace HT := Lib.hid (HT.out.trans hS)
        clear hS
        simp only [setAll, List.setIfInBounds_toArray, List.set_cons_zero, List.set_cons_succ, e18]
        show wpList _ _ _ [] _ _
        refine wpList_nil ?_
        clear e18
        go_upto_region 7 with fail
        refine wp_region_list (wpList_flowP 3 (lookW [(2, pu (isP (g2))), (5, pu (isP (g5))), (19, pu (PtV (padd (pmul (M / 2 ^ (j + 1)) P) (pmul (M / 2 ^ (j + 1)) P)))), (20, pu (PtV (P))), (21, pu (PtV (padd (padd (pmul (M / 2 ^ (j + 1)) P) (pmul (M / 2 ^ (j + 1)) P)) (P))))]) [2, 5] [19, 20, 21] [21] (by kernel_rfl) (by kernel_rfl) (by kernel_rfl) ⟨rfl, rfl, trivial⟩ ?_ ?_)
        · refine FStepsW.cons (FStepW.plain rfl fun a w hS hE => OpTo.rdP 19 (.tmp 5) rfl rfl (g5) (hE 5 (by kernel_rfl)) (B5.out.touch hS notin_nil) P14.out (fun _ h => h)) ?_
          refine FStepsW.cons (FStepW.plain rfl fun a w hS hE => OpTo.rdP 20 (.tmp 2) rfl rfl (g2) (hE 2 (by kernel_rfl)) (B2.out.touch hS notin_nil) P2.out (fun _ h => h)) ?_
          refine FStepsW.cons (FStepW.plain rfl fun a w hS hE => OpTo.call #[a.tmps.getD 19 undef, a.tmps.getD 20 undef] rfl Tryd.func9 (by kernel_rfl) (by kernel_rfl) (args2 ..) ((padd_v (hE 19 (by kernel_rfl)) (hE 20 (by kernel_rfl)) w).mono fun _ _ h => Gives.toW 21 rfl (fun _ _ h => h) h)) ?_
          exact FStepsW.nil
        intro f w9 hS hF
        obtain ⟨h21, -⟩ := hF
        obtain ⟨b21, l21, q21, e21⟩ := h21
        have P21 := Lib.hid q21
        clear q21
        replace B2 := Lib.hid (B2.out.touch hS notin_nil)
        replace B5 := Lib.hid (B5.out.touch hS notin_nil)
        replace B4 := Lib.hid (B4.out.touch hS notin_nil)
        replace HT := Lib.hid (HT.out.trans hS)
        clear hS
        simp only [setAll, List.setIfInBounds_toArray, List.set_cons_zero, List.set_cons_succ, e21]
        show wpList _ _ _ [_] _ _
        refine wpList_store_row rfl 29 (.tmp 5) (.tmp 21) rfl g5 (ptA b21 l21) rfl rfl 29 (ptA b14 l14) B5.out (by rw [ptA_size P21.out.len]; exact infoP) ((ptA_size P14.out.len).trans (ptA_size P21.out.len).symm) (ptA_one b21 l21) ?_
        refine wpList_nil ?_
        simp only [Act.put]
        have B2' := (B2.out.frow NE2_5.out (ptA b21 l21))
        have B5' := (B5.out.setRow (ptA b21 l21))
        have B4' := (B4.out.frow NE4_5.out (ptA b21 l21))
        have HT' := (HT.out.setRowE (.inr HB5.out) (ptA b21 l21))
        obtain ⟨w10, hw10⟩ : ∃ w10, w10 = (w9.setRow g5 (ptA b21 l21)) := ⟨_, rfl⟩
        rw [← hw10] at HT' B2' B5' B4'
        rw [← hw10]
        clear hw10 HT B2 B5 B4
        have B2 := Lib.hid B2'
        clear B2'
        have B5 := Lib.hid B5'
        clear B5'
        have B4 := Lib.hid B4'
        clear B4'
        have HT := Lib.hid HT'
        clear HT'
        clear e21
        have hj := Hj.out
        go_wp2_with fail
        go_roundw
        case rel => exact ⟨j, _, _, by have := Hj.out; omega, by go_num, by have := P21.out; rwa [pmul_step1 P hb'.out] at this, B5.out, B2.out, B4.out, HT.out⟩
        case measure => simp [intOf]; try omega
end Go.Proofs.YtbgpgbfiadhddaaDoor
/- Bytes of points are read as they were; the base point. -/
namespace Go.Proofs.YtbgpgbfiadhddaaDoor
open Go Go.RowKit
theorem even_root {x : Nat} (hx : x < PP) (he : ¬ x % 2 = 1) : rootN (mulF x x) = x := by
  refine Classical.byContradiction fun h => ?_
  have h1 := root_of_sq hx h
  have h2 := root_even (mulF x x)
  have h3 := rootN_lt (mulF x x)
  generalize rootN (mulF x x) = r at *
  have ho := PP_odd
  unfold negF at h1
  generalize PP = p at *
  by_cases h0 : r = 0
  · subst h0
    rw [Nat.sub_zero, Nat.mod_self] at h1
    exact h h1
  · rw [Nat.mod_eq_of_lt (by omega)] at h1
    omega
theorem gr_nn {N0 : Nat} [NeZero N0] (x : Fin N0) : -x * -x = x * x := by grind
theorem neg_sq {x : Nat} (hx : x < PP) : mulF (negF x) (negF x) = mulF x x := by
  refine ff_inj (mulF_lt ..) (mulF_lt ..) ?_
  rw [ff_mul, ff_mul, ff_neg hx]
  exact gr_nn (ff x)
theorem neg_par {x : Nat} (hx : x < PP) (h : x % 2 = 1) : ¬ negF x % 2 = 1 := neg_even hx h
theorem neg_par' {x : Nat} (hx : x < PP) (h : ¬ x % 2 = 1) (h0 : x ≠ 0) : negF x % 2 = 1 := by
  have ho := PP_odd
  unfold negF
  generalize PP = p at *
  have e : (p - x) % p = p - x := Nat.mod_eq_of_lt (by omega)
  rw [e]
  omega
theorem odd_root {x : Nat} (hx : x < PP) (h : x % 2 = 1) : rootN (mulF x x) = negF x := by
  rw [← neg_sq hx]
  exact even_root (negF_lt x) (neg_par hx h)
theorem cv_arg {N0 : Nat} [NeZero N0] {d x y k : Fin N0} (h : y^2 - x^2 - 1 - d*x^2*y^2 = 0) (hk : (d*(y*y) + 1)*k = 1) : (y*y - 1)*k = x*x := by
  have e : (y*y - 1) = (y^2 - x^2 - 1 - d*x^2*y^2) + (x*x)*(d*(y*y)+1) := by clear h hk; grind
  have e2 : (0 + (x*x)*(d*(y*y)+1))*k = (x*x)*((d*(y*y)+1)*k) := by clear h hk e; grind
  rw [e, h, e2, hk]
  clear h hk e e2
  grind
theorem arg_pt (P : Pt) : argN P.y.val = mulF P.x.val P.x.val := by
  refine ff_inj (mulF_lt ..) (mulF_lt ..) ?_
  unfold argN
  rw [ff_mul, ff_mul, ff_sub (by decide), ff_mul, ff_one, ff_invF (addF_lt ..), ff_add, ff_mul, ff_mul, ff_one, ff_val, ff_val]
  exact cv_arg P.on (mul_iF (dec_den P.y))
theorem encN_lt (P : Pt) : encN P < 115792089237316195423570985008687907853269984665640564039457584007913129639936 := by
  have h1 := Nat.lt_trans P.y.isLt PP_255
  have h2 : P.x.val % 2 < 2 := Nat.mod_lt _ (by decide)
  unfold encN
  have e : (115792089237316195423570985008687907853269984665640564039457584007913129639936 : Nat) = 2 ^ 255 * 2 := by decide
  rw [e]
  have h3 : 2 ^ 255 * (P.x.val % 2) ≤ 2 ^ 255 * 1 := Nat.mul_le_mul_left _ (by omega)
  omega
theorem dn_enc (P : Pt) : dnS (encS P) = encN P := by
  unfold dnS encS
  rw [leN_toS, Nat.mod_eq_of_lt (encN_lt P)]
theorem dy_enc (P : Pt) : dyN (encS P) = P.y.val := by
  unfold dyN
  rw [dn_enc]
  unfold encN
  rw [Nat.add_mul_mod_self_left, Nat.mod_eq_of_lt (Nat.lt_trans P.y.isLt PP_255)]
theorem odd_enc (P : Pt) : oddS (encS P) = decide (P.x.val % 2 = 1) := by
  unfold oddS
  have h : (bl (encS P)).getD 31 0 = P.y.val / 2 ^ (8 * 31) % 256 + 128 * (P.x.val % 2) := by
    unfold encS
    rw [toS_at _ _ (by decide)]
    exact enc_top _ _ (Nat.lt_trans P.y.isLt PP_255) (Nat.mod_lt _ (by decide))
  rw [h]
  have h1 := y_top P
  have h2 : P.y.val / 2 ^ (8 * 31) % 256 < 128 := Nat.lt_of_le_of_lt (Nat.mod_le ..) h1
  generalize P.y.val / 2 ^ (8 * 31) % 256 = q at *
  exact decide_eq_decide.2 (by omega)
theorem enc_size' (P : Pt) : (encS P).size = 32 := toS_size _
theorem dec_enc (P : Pt) : decOK (encS P) ∧ decP (encS P) = P := by
  have hx := P.x.isLt
  by_cases ho : P.x.val % 2 = 1
  · have hr := odd_root hx ho
    have h0 : ¬ negF P.x.val = 0 := fun h => by
      have := negF_negF hx
      rw [h] at this
      rw [← this] at ho
      unfold negF at ho
      rw [Nat.sub_zero, Nat.mod_self] at ho
      omega
    have hX : decX (encS P) = P.x.val := by
      unfold decX
      rw [odd_enc, dy_enc, decide_eq_true ho, if_pos rfl, arg_pt, hr, negF_negF hx]
    have hok : decOK (encS P) := ⟨enc_size' P, by rw [dy_enc]; exact P.y.isLt, by rw [dy_enc, arg_pt]; exact sq_isN hx rfl, fun h => h0 (by have h2 := h.2; rwa [dy_enc, arg_pt, hr] at h2)⟩
    refine ⟨hok, ?_⟩
    rw [decP_yes hok]
    exact PtG.ext' (by show ff (decX (encS P)) = P.x; rw [hX, ff_val]) (by show ff (dyN (encS P)) = P.y; rw [dy_enc, ff_val])
  · have hr := even_root hx ho
    have hX : decX (encS P) = P.x.val := by
      unfold decX
      rw [odd_enc, dy_enc, decide_eq_false ho, if_neg (by decide), arg_pt, hr]
    have hok : decOK (encS P) := ⟨enc_size' P, by rw [dy_enc]; exact P.y.isLt, by rw [dy_enc, arg_pt]; exact sq_isN hx rfl, fun h => by have h2 := h.1; rw [odd_enc, decide_eq_false ho] at h2; exact absurd h2 (by decide)⟩
    refine ⟨hok, ?_⟩
    rw [decP_yes hok]
    exact PtG.ext' (by show ff (decX (encS P)) = P.x; rw [hX, ff_val]) (by show ff (dyN (encS P)) = P.y; rw [dy_enc, ff_val])
theorem ff_v {n : Nat} (h : n < PP) : (ff n).val = n := Nat.mod_eq_of_lt h
theorem decX_par {s : ByteArray} (h : decOK s) : decX s % 2 = if oddS s then 1 else 0 := by
  have he := root_even (argN (dyN s))
  have hl := rootN_lt (argN (dyN s))
  unfold decX
  by_cases ho : oddS s = true
  · rw [ho, if_pos rfl, if_pos rfl]
    exact neg_par' hl he fun h0 => h.2.2.2 ⟨ho, h0⟩
  · rw [if_neg ho, if_neg ho]
    omega
theorem enc_dec {s : ByteArray} (h : decOK s) : encS (decP s) = s := by
  have e : encN (decP s) = dnS s := by
    unfold encN
    rw [decP_yes h]
    show (ff (dyN s)).val + 2 ^ 255 * ((ff (decX s)).val % 2) = _
    rw [ff_v h.2.1, ff_v (decX_lt s), decX_par h, oddS_eq h.1]
  unfold encS
  rw [e]
  unfold dnS
  exact toS_leN h.1
/-! ### The base point -/
def BX : Nat := 15112221349535400772501151409588531511454012693041857206046113283949847762202
def BY : Nat := 46316835694926478169428394003475163141307993866256225615783033603165251855960
theorem gr_s0 {N0 : Nat} [NeZero N0] {a b : Fin N0} (h : a = b) : a - b = 0 := by
  subst h
  grind
theorem gr_cv {N0 : Nat} [NeZero N0] {d x y : Fin N0} (h : y*y = x*x + 1 + d*(x*x)*(y*y)) : y^2 - x^2 - 1 - d*x^2*y^2 = 0 := by
  have e : y^2 - x^2 - 1 - d*x^2*y^2 = y*y - (x*x + 1 + d*(x*x)*(y*y)) := by clear h; grind
  exact e.trans (gr_s0 h)
theorem base_on : Cv (ff BX) (ff BY) := by
  have h : mulF BY BY = addF (addF (mulF BX BX) 1) (mulF (mulF DN (mulF BX BX)) (mulF BY BY)) := by decide +kernel
  have h2 := congrArg ff h
  rw [ff_mul, ff_add, ff_add, ff_mul, ff_one, ff_mul, ff_mul, ff_mul, ff_mul] at h2
  exact gr_cv h2
def pB : Pt := ⟨ff BX, ff BY, base_on⟩
theorem BX_lt : BX < PP := by decide
theorem BY_lt : BY < PP := by decide
theorem encN_B : encN pB = BY := by
  unfold encN pB
  show (ff BY).val + 2 ^ 255 * ((ff BX).val % 2) = BY
  rw [ff_v BX_lt, ff_v BY_lt]
  decide +kernel
theorem rep_B : QRep pB BX BY 1 (mulF BX BY) := rep_of BX_lt BY_lt base_on
theorem pB_x : pB.x.val = BX := ff_v BX_lt
theorem pB_ne : pB ≠ pzero := fun h => by
  have h1 := congrArg (fun P : Pt => P.x.val) h
  simp only [pB_x] at h1
  have h2 : pzero.x.val = 0 := by show (0 : FF).val = 0; simp
  rw [h2] at h1
  exact absurd h1 (by decide)
theorem samePt_no {P Q : Pt} (h : P ≠ Q) : samePt P Q = false := by
  cases hc : samePt P Q with
  | false => rfl
  | true => exact absurd (samePt_iff.1 hc) h
theorem pmul_2 (P : Pt) : pmul 2 P = padd P P := by
  show padd (pmul 1 P) P = _
  rw [show pmul 1 P = P from ed.one_mul P]
theorem add_self_ne {P : Pt} (h : P ≠ pzero) : padd P P ≠ P := fun e => by
  refine h ?_
  have h1 : padd (padd P P) (pneg P) = padd P (pneg P) := by rw [e]
  rw [show padd (padd P P) (pneg P) = padd P (padd P (pneg P)) from ed.assoc P P (pneg P), show padd P (pneg P) = pzero from ed.add_neg P, show padd P pzero = P from ed.add_zero P] at h1
  exact h1
/-! ### Twice, in numbers -/
structure Q4 where
  x : Nat
  y : Nat
  z : Nat
  t : Nat
def addQ (p q : Q4) : Q4 :=
  let A := mulF (subF p.y p.x) (subF q.y q.x)
  let B := mulF (addF p.y p.x) (addF q.y q.x)
  let C := addF (mulF (mulF p.t q.t) DN) (mulF (mulF p.t q.t) DN)
  let D := addF (mulF p.z q.z) (mulF p.z q.z)
  let E := subF B A
  let F := subF D C
  let G := addF D C
  let H := addF B A
  ⟨mulF E F, mulF H G, mulF G F, mulF E H⟩
def Rep4 (P : Pt) (q : Q4) : Prop := QRep P q.x q.y q.z q.t
theorem rep4_add {P Q : Pt} {p q : Q4} (h1 : Rep4 P p) (h2 : Rep4 Q q) : Rep4 (padd P Q) (addQ p q) := rep_add h1 h2 rfl rfl rfl rfl rfl rfl rfl rfl
theorem gr_z0 {N0 : Nat} [NeZero N0] (x : Fin N0) : 0 * x = 0 := by grind
theorem rep4_ne {P : Pt} {q : Q4} (h : Rep4 P q) (h0 : q.x ≠ 0) : P ≠ pzero := fun e => by
  have h1 := h.x
  rw [e] at h1
  have h2 : pzero.x * ff q.z = (0 : FF) := gr_z0 (ff q.z)
  rw [h2] at h1
  exact h0 (ff_eq_zero h.lx h1)
def qB : Q4 := ⟨BX, BY, 1, mulF BX BY⟩
theorem pmul_8 (P : Pt) : pmul 8 P = padd (padd (padd P P) (padd P P)) (padd (padd P P) (padd P P)) := by
  have h2 := pmul_2 P
  have h4 : pmul 4 P = padd (padd P P) (padd P P) := by rw [← h2]; exact ed.mul_add 2 2 P
  rw [← h4]
  exact ed.mul_add 4 4 P
theorem pB_8 : pmul 8 pB ≠ pzero := by
  rw [pmul_8]
  have hB : Rep4 pB qB := rep_B
  have h2 := rep4_add hB hB
  have h4 := rep4_add h2 h2
  exact rep4_ne (rep4_add h4 h4) (by decide +kernel)
theorem encN_0 : encN pzero = 1 := by
  unfold encN
  show (1 : FF).val + 2 ^ 255 * ((0 : FF).val % 2) = 1
  decide +kernel
end Go.Proofs.YtbgpgbfiadhddaaDoor
/- Point.Small. -/
namespace Go.Proofs.YtbgpgbfiadhddaaDoor
open Go Go.RowKit
theorem lowN_8 : lowN ⟨#[8]⟩ = 8 := by decide +kernel
set_option maxRecDepth 100000 in
set_option maxHeartbeats 4000000 in
theorem small_v {P : Pt} {x : Value} (hx : PtV P x) (w : World) : Calls Tryd.prog 31 #[x] w (Gives w (isB (samePt (pmul 8 P) pzero))) := by
  obtain ⟨b1, l1, h1, rfl⟩ := hx
  have P1 := Lib.hid h1
  clear h1
  unfold ptV
  go_enter Tryd.func31, Tryd.ntmps31
  go_upto_region 0 with fail
  refine wp_region_list ?_
  refine wpList_run rfl (exec_box rfl rfl) ?_
  refine wpList_run (v := .bool false) rfl (exec_assignV rfl rfl) ?_
  refine wpList_nil ?_
  simp only [Act.put, List.setIfInBounds_toArray, List.set_cons_zero, List.set_cons_succ]
  obtain ⟨w1, g1, hW, eg1, b1, ht, hb1⟩ := start1 w 29 (ptA b1 l1)
  rw [← hW]
  rw [← eg1]
  have HT := Lib.hid ht
  have B1 := Lib.hid b1
  have HB1 := Lib.hid hb1
  clear hW eg1 b1 ht hb1
  go_upto_region 1 with fail
  refine wp_region_list (wpList_flowP 4 (lookW [(1, pu (isP (g1))), (3, pu (PtV (P))), (4, pu (PtV (pmul (lowN (⟨#[8]⟩)) (P)))), (5, pu (PQv (0) (1) (1) (mulF (0) (1)))), (6, pu (isB (samePt (pmul (lowN (⟨#[8]⟩)) (P)) (pzero))))]) [1] [3, 4, 5, 6] [6] (by kernel_rfl) (by kernel_rfl) (by kernel_rfl) ⟨rfl, trivial⟩ ?_ ?_)
  · refine FStepsW.cons (FStepW.plain rfl fun a w hS hE => OpTo.rdP 3 (.tmp 1) rfl rfl (g1) (hE 1 (by kernel_rfl)) (B1.out.touch hS notin_nil) P1.out (fun _ h => h)) ?_
    refine FStepsW.cons (FStepW.plain rfl fun a w hS hE => OpTo.call #[a.tmps.getD 3 undef, .string ⟨#[8]⟩] rfl Tryd.func7 (by kernel_rfl) (by kernel_rfl) (args2 ..) ((pmul_v (hE 3 (by kernel_rfl)) (Eq.refl (Value.string ⟨#[8]⟩)) w).mono fun _ _ h => Gives.toW 4 rfl (fun _ _ h => h) h)) ?_
    refine FStepsW.cons (FStepW.plain rfl fun a w hS hE => OpTo.call #[] rfl Tryd.func20 (by kernel_rfl) (by kernel_rfl) (args0 ..) ((zero_q w).mono fun _ _ h => Gives.toW 5 rfl (fun _ _ h => h) h)) ?_
    refine FStepsW.cons (FStepW.plain rfl fun a w hS hE => OpTo.call #[a.tmps.getD 4 undef, a.tmps.getD 5 undef] rfl Tryd.func8 (by kernel_rfl) (by kernel_rfl) (args2 ..) ((psame_v (hE 4 (by kernel_rfl)) (PQv.pt rep_zero (hE 5 (by kernel_rfl))) w).mono fun _ _ h => Gives.toW 6 rfl (fun _ _ h => h) h)) ?_
    exact FStepsW.nil
  intro f w2 hS hF
  obtain ⟨h6, -⟩ := hF
  have e6 : f 6 = .bool (samePt (pmul (lowN (⟨#[8]⟩)) (P)) (pzero)) := h6
  clear h6
  replace B1 := Lib.hid (B1.out.touch hS notin_nil)
  replace HT := Lib.hid (HT.out.trans hS)
  clear hS
  simp only [setAll, List.setIfInBounds_toArray, List.set_cons_zero, List.set_cons_succ, e6]
  show wpList _ _ _ [_] _ _
  refine wpList_run (v := .bool (samePt (pmul (lowN (⟨#[8]⟩)) (P)) (pzero))) rfl (exec_assignV rfl rfl) ?_
  refine wpList_nil ?_
  simp only [Act.put, List.setIfInBounds_toArray, List.set_cons_zero, List.set_cons_succ]
  clear e6
  go_wp2_with fail
  go_ret
  exact ⟨_, rfl, by rw [← lowN_8]; rfl, HT.out⟩
end Go.Proofs.YtbgpgbfiadhddaaDoor
