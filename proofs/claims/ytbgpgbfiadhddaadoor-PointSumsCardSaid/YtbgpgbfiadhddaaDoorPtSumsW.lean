/- syngraphlaw06.PointSums: the walk. -/
import Derived.Test.YtbgpgbfiadhddaaDoorPtFixed
import Derived.Test.YtbgpgbfiadhddaaDoorPtSc
namespace Go.Proofs.YtbgpgbfiadhddaaDoor
open Go Go.RowKit

def runQ : Nat → Nat → Q4
  | 0, _ => ⟨0, 1, 1, 0⟩
  | f + 1, n => if n % 2 = 1 then addQ (addQ (runQ f (n / 2)) (runQ f (n / 2))) qB else addQ (runQ f (n / 2)) (runQ f (n / 2))
theorem runQ_rep : ∀ f n, n < 2 ^ f → Rep4 (pmul n pB) (runQ f n) := by
  intro f
  induction f with
  | zero =>
    intro n h
    obtain rfl : n = 0 := by simpa using h
    have h0 := rep_zero
    exact ⟨h0.lx, h0.ly, h0.lz, PP_pos, h0.z, h0.x, h0.y, by
      have := h0.t
      rw [show mulF 0 1 = 0 from rfl] at this
      exact this⟩
  | succ f ih =>
    intro n h
    have hh := ih (n / 2) (by rw [Nat.pow_succ] at h; omega)
    have h2 : Rep4 (pmul (n / 2 * 2) pB) (addQ (runQ f (n / 2)) (runQ f (n / 2))) := by
      rw [← pmul_dbl]
      exact rep4_add hh hh
    rw [runQ]
    by_cases h1 : n % 2 = 1
    · rw [if_pos h1]
      have e : n = n / 2 * 2 + 1 := by omega
      have h3 : pmul n pB = padd (pmul (n / 2 * 2) pB) pB := congrArg (fun k => pmul k pB) e
      rw [h3]
      exact rep4_add h2 rep_B
    · rw [if_neg h1]
      have e : n = n / 2 * 2 := by omega
      have h3 : pmul n pB = pmul (n / 2 * 2) pB := congrArg (fun k => pmul k pB) e
      rw [h3]
      exact h2
set_option maxRecDepth 100000 in
theorem run_ell : (runQ 253 ell).x = 0 ∧ (runQ 253 ell).y = (runQ 253 ell).z := by decide +kernel
theorem gr_o1 {N0 : Nat} [NeZero N0] {x : Fin N0} : 1 * x = x := by grind
theorem rep4_zero {P : Pt} {q : Q4} (h : Rep4 P q) (hx : q.x = 0) (hy : q.y = q.z) : P = pzero := by
  have h1 := h.x
  have h2 := h.y
  rw [hx, ff_zero] at h1
  rw [hy] at h2
  refine PtG.ext' ?_ ?_
  · show P.x = 0
    rcases ff_dom h1.symm with h3 | h3
    · exact h3
    · exact absurd h3 h.z
  · show P.y = 1
    exact (ed.cancel h.z (gr_o1.trans h2)).symm
theorem neg_sum {x : Nat} (hx : x < ell) : (x * 1 + negN x) % ell = 0 := by
  unfold negN
  rw [Nat.mul_one, Nat.mod_eq_of_lt hx, Nat.add_mod_mod, show x + (ell - x) = ell by omega, Nat.mod_self]
/-- The order times the base point is the neutral one. -/
theorem ell_B : pmul ell pB = pzero := rep4_zero (runQ_rep 253 ell (by decide)) run_ell.1 run_ell.2
theorem mod_B (n : Nat) : pmul (n % ell) pB = pmul n pB := by
  have e : n = n / ell * ell + n % ell := by rw [Nat.mul_comm]; exact (Nat.div_add_mod n ell).symm
  have h1 : pmul n pB = padd (pmul (n / ell * ell) pB) (pmul (n % ell) pB) := (congrArg (fun k => pmul k pB) e).trans (ed.mul_add _ _ _)
  have h2 : pmul (n / ell * ell) pB = pzero := by
    have h3 : pmul (n / ell * ell) pB = pmul (n / ell) (pmul ell pB) := ed.mul_mul _ _ _
    rw [h3, ell_B]
    exact ed.mul_zero _
  rw [h1, h2]
  exact (ed.zero_add _).symm
theorem lowN_toS {n : Nat} (h : n < ell) : lowN (toS n) = n := by
  unfold lowN
  have h1 : n < 115792089237316195423570985008687907853269984665640564039457584007913129639936 := Nat.lt_trans h (by decide)
  rw [leN_toS, Nat.mod_eq_of_lt h1, Nat.mod_eq_of_lt (by rw [show (2 : Nat) ^ 256 = 115792089237316195423570985008687907853269984665640564039457584007913129639936 by decide]; exact h1)]
theorem sum_B {X Y S : Nat} (hX : X < ell) (hY : Y < ell) (hS : S < ell) (h : (X * 1 + Y) % ell = S) : pmul (lowN (toS S)) pB = padd (pmul (lowN (toS X)) pB) (pmul (lowN (toS Y)) pB) := by
  rw [lowN_toS hX, lowN_toS hY, lowN_toS hS, ← h, mod_B, Nat.mul_one]
  exact ed.mul_add _ _ _
theorem neg_B {X N : Nat} (hX : X < ell) (hN : N < ell) (h : negN X = N) : pmul (lowN (toS N)) pB = pneg (pmul (lowN (toS X)) pB) := by
  rw [lowN_toS hX, lowN_toS hN, ← h]
  refine ed.neg_one ?_
  have h1 : paddG ed (pmul X pB) (pmul (negN X) pB) = pmul (X + negN X) pB := (ed.mul_add _ _ _).symm
  rw [h1]
  have h2 : (X + negN X) % ell = 0 := by
    have := neg_sum hX
    rwa [Nat.mul_one] at this
  rw [← mod_B, h2]
  rfl
theorem swap_B (m n : Nat) (P : Pt) : pmul m (pmul n P) = pmul n (pmul m P) := by
  have h1 : pmul (m * n) P = pmul m (pmul n P) := ed.mul_mul m n P
  have h2 : pmul (n * m) P = pmul n (pmul m P) := ed.mul_mul n m P
  rw [← h1, ← h2, Nat.mul_comm]
theorem sc_cut_v {s : ByteArray} {x : Value} (hx : isS s x) {n : Nat} (hn : numS s % ell = n) {w : World} (ho : Ord w) : Calls Tryd.prog 4 #[x] w (Gives w (isS (toS n))) := by
  obtain rfl : x = .string s := hx
  exact (cuL s n hn w ho).mono fun _ _ ⟨he, ht⟩ => ⟨_, he, rfl, ht⟩
theorem sc_neg_v {s : ByteArray} {x : Value} (hx : isS s x) {n : Nat} (hn : negN (numS s) = n) {w : World} (ho : Ord w) : Calls Tryd.prog 10 #[x] w (Gives w (isS (toS n))) := by
  obtain rfl : x = .string s := hx
  exact (neL s n hn w ho).mono fun _ _ ⟨he, ht⟩ => ⟨_, he, rfl, ht⟩
theorem sc_ma_v {a b c : ByteArray} {x y z : Value} (hx : isS a x) (hy : isS b y) (hz : isS c z) {n : Nat} (hn : (lowS a * lowS b + lowS c) % ell = n) (w : World) : Calls Tryd.prog 6 #[x, y, z] w (Gives w (isS (toS n))) := by
  obtain rfl : x = .string a := hx
  obtain rfl : y = .string b := hy
  obtain rfl : z = .string c := hz
  subst hn
  exact (refMulAdd_any a b c w).mono fun _ _ ⟨he, ht⟩ => ⟨_, he, rfl, ht⟩
theorem samePt_of {P Q : Pt} (h : P = Q) : samePt P Q = true := samePt_iff.2 h
set_option maxRecDepth 100000 in
set_option maxHeartbeats 4000000 in
theorem psums_walk (j k : ByteArray) (w : World) (hord : Ord w) : Calls Tryd.prog 3 #[.string j, .string k] w fun e w' => e = .returned (.bool true) ∧ Touch [] w w' := by
  obtain ⟨X, hX⟩ : ∃ n, numS j % ell = n := ⟨_, rfl⟩
  obtain ⟨Y, hY⟩ : ∃ n, numS k % ell = n := ⟨_, rfl⟩
  have lX : X < ell := hX ▸ mod_ell _
  have lY : Y < ell := hY ▸ mod_ell _
  obtain ⟨S, hS⟩ : ∃ n, (X * 1 + Y) % ell = n := ⟨_, rfl⟩
  have lS : S < ell := hS ▸ mod_ell _
  obtain ⟨N, hN⟩ : ∃ n, negN X = n := ⟨_, rfl⟩
  have lN : N < ell := hN ▸ negN_lt _
  have KX := Lib.hid hX
  have KY := Lib.hid hY
  have KM := Lib.hid (show (lowS (toS X) * lowS ⟨#[1]⟩ + lowS (toS Y)) % ell = S by rw [low_toS lX, low_toS lY, low_one]; exact hS)
  have KN := Lib.hid (show negN (numS (toS X)) = N by rw [num_toS lX]; exact hN)
  have Q31 := Lib.hid (sum_B lX lY lS hS)
  have Q39 := Lib.hid (neg_B lX lN hN)
  have Hord := Lib.hid hord
  clear hX hY lX lY hS lS hN lN hord
  go_enter Tryd.func3, Tryd.ntmps3
  go_upto_region 0 with fail
  refine wp_region_list ?_
  refine wpList_run (v := .bool false) rfl (exec_assignV rfl rfl) ?_
  refine wpList_nil ?_
  simp only [Act.put, List.setIfInBounds_toArray, List.set_cons_zero, List.set_cons_succ]
  have HT := Lib.hid (Touch.refl [] w)
  go_upto_region 1 with fail
  refine wp_region_list (wpList_flowP 6 (lookW [(0, pu (isS (j))), (1, pu (isS (k))), (5, pu (isS (toS (X)))), (6, pu (isS (toS (Y)))), (11, pu (isS (j))), (12, pu (isS (toS (X)))), (13, pu (isS (k))), (14, pu (isS (toS (Y))))]) [0, 1] [11, 12, 13, 14, 5, 6] [5, 6] (by kernel_rfl) (by kernel_rfl) (by kernel_rfl) ⟨rfl, rfl, trivial⟩ ?_ ?_)
  · refine FStepsW.cons (FStepW.plain rfl fun a w hS hE => OpTo.move rfl ⟨dOfW.of 11 rfl (hE 0 (by kernel_rfl)), Touch.refl _ _⟩) ?_
    refine FStepsW.cons (FStepW.plain rfl fun a w hS hE => OpTo.call #[a.tmps.getD 11 undef] rfl Tryd.func4 (by kernel_rfl) (by kernel_rfl) (args1 ..) (((fun _ => sc_cut_v (hE 11 (by kernel_rfl)) KX.out (Hord.out.touch (HT.out.trans hS))) w).mono fun _ _ h => Gives.toW 12 rfl (fun _ _ h => h) h)) ?_
    refine FStepsW.cons (FStepW.plain rfl fun a w hS hE => OpTo.move rfl ⟨dOfW.of 13 rfl (hE 1 (by kernel_rfl)), Touch.refl _ _⟩) ?_
    refine FStepsW.cons (FStepW.plain rfl fun a w hS hE => OpTo.call #[a.tmps.getD 13 undef] rfl Tryd.func4 (by kernel_rfl) (by kernel_rfl) (args1 ..) (((fun _ => sc_cut_v (hE 13 (by kernel_rfl)) KY.out (Hord.out.touch (HT.out.trans hS))) w).mono fun _ _ h => Gives.toW 14 rfl (fun _ _ h => h) h)) ?_
    refine FStepsW.cons (FStepW.plain rfl fun a w hS hE => OpTo.assign rfl ⟨dOfW.of 5 rfl (hE 12 (by kernel_rfl)), Touch.refl _ _⟩) ?_
    refine FStepsW.cons (FStepW.plain rfl fun a w hS hE => OpTo.assign rfl ⟨dOfW.of 6 rfl (hE 14 (by kernel_rfl)), Touch.refl _ _⟩) ?_
    exact FStepsW.nil
  intro f w1 hS hF
  obtain ⟨h5, h6, -⟩ := hF
  have e5 : f 5 = .string (toS (X)) := h5
  clear h5
  have e6 : f 6 = .string (toS (Y)) := h6
  clear h6
  replace HT := Lib.hid (HT.out.trans hS)
  clear hS
  simp only [setAll, List.setIfInBounds_toArray, List.set_cons_zero, List.set_cons_succ, e5, e6]
  show wpList _ _ _ [] _ _
  refine wpList_nil ?_
  clear e5 e6
  go_upto_region 2 with fail
  refine wp_region_list (wpList_flowP 2 (lookW [(7, newS w1.heap.size 29 (ptA false zl)), (15, pu (PtV (pB)))]) [] [15, 7] [15, 7] (by kernel_rfl) (by kernel_rfl) (by kernel_rfl) trivial ?_ ?_)
  · refine FStepsW.cons (FStepW.plain rfl fun a w hS hE => OpTo.call #[] rfl Tryd.func5 (by kernel_rfl) (by kernel_rfl) (args0 ..) ((base_v w).mono fun _ _ h => Gives.toW 15 rfl (fun _ _ h => h) h)) ?_
    refine FStepsW.cons (FStepW.plain rfl fun a w hS hE => OpTo.allocG 7 29 (ptA false zl) rfl hS (exec_alloc_pt rfl) rfl) ?_
    exact FStepsW.nil
  intro f w2 hS hF
  obtain ⟨h15, h7, -⟩ := hF
  obtain ⟨b15, l15, q15, e15⟩ := h15
  have P15 := Lib.hid q15
  clear q15
  obtain ⟨g7, e7, z7, b7⟩ := h7
  have B7 := Lib.hid z7
  have HB7 := Lib.hid (Nat.le_trans HT.out.size b7)
  clear z7 b7
  replace HT := Lib.hid (HT.out.trans hS)
  clear hS
  simp only [setAll, List.setIfInBounds_toArray, List.set_cons_zero, List.set_cons_succ, e15, e7]
  show wpList _ _ _ [_] _ _
  refine wpList_store_row rfl 29 (.tmp 7) (.tmp 15) rfl g7 (ptA b15 l15) rfl rfl 29 (ptA false zl) B7.out (by rw [ptA_size P15.out.len]; exact infoP) ((ptA_size zl_len).trans (ptA_size P15.out.len).symm) (ptA_one b15 l15) ?_
  refine wpList_nil ?_
  simp only [Act.put]
  have B7' := (B7.out.setRow (ptA b15 l15))
  have HT' := (HT.out.setRowE (.inr HB7.out) (ptA b15 l15))
  obtain ⟨w3, hw3⟩ : ∃ w3, w3 = (w2.setRow g7 (ptA b15 l15)) := ⟨_, rfl⟩
  rw [← hw3] at HT' B7'
  rw [← hw3]
  clear hw3 HT B7
  have B7 := Lib.hid B7'
  clear B7'
  have HT := Lib.hid HT'
  clear HT'
  clear e15 e7
  go_upto_region 3 with fail
  refine wp_region_list (wpList_flowP 4 (lookW [(5, pu (isS (toS (X)))), (6, pu (isS (toS (Y)))), (8, pu (isS (toS (S)))), (16, pu (isS (toS (X)))), (17, pu (isS (toS (Y)))), (18, pu (isS (toS (S))))]) [5, 6] [16, 17, 18, 8] [8] (by kernel_rfl) (by kernel_rfl) (by kernel_rfl) ⟨rfl, rfl, trivial⟩ ?_ ?_)
  · refine FStepsW.cons (FStepW.plain rfl fun a w hS hE => OpTo.move rfl ⟨dOfW.of 16 rfl (hE 5 (by kernel_rfl)), Touch.refl _ _⟩) ?_
    refine FStepsW.cons (FStepW.plain rfl fun a w hS hE => OpTo.move rfl ⟨dOfW.of 17 rfl (hE 6 (by kernel_rfl)), Touch.refl _ _⟩) ?_
    refine FStepsW.cons (FStepW.plain rfl fun a w hS hE => OpTo.call #[a.tmps.getD 16 undef, .string ⟨#[1]⟩, a.tmps.getD 17 undef] rfl Tryd.func6 (by kernel_rfl) (by kernel_rfl) (args3 ..) ((sc_ma_v (hE 16 (by kernel_rfl)) (Eq.refl (Value.string ⟨#[1]⟩)) (hE 17 (by kernel_rfl)) KM.out w).mono fun _ _ h => Gives.toW 18 rfl (fun _ _ h => h) h)) ?_
    refine FStepsW.cons (FStepW.plain rfl fun a w hS hE => OpTo.assign rfl ⟨dOfW.of 8 rfl (hE 18 (by kernel_rfl)), Touch.refl _ _⟩) ?_
    exact FStepsW.nil
  intro f w4 hS hF
  obtain ⟨h8, -⟩ := hF
  have e8 : f 8 = .string (toS (S)) := h8
  clear h8
  replace B7 := Lib.hid (B7.out.touch hS notin_nil)
  replace HT := Lib.hid (HT.out.trans hS)
  clear hS
  simp only [setAll, List.setIfInBounds_toArray, List.set_cons_zero, List.set_cons_succ, e8]
  show wpList _ _ _ [] _ _
  refine wpList_nil ?_
  clear e8
  go_upto_region 4 with fail
  refine wp_region_flowX (lookW [(5, pu (isS (toS (X)))), (6, pu (isS (toS (Y)))), (7, pu (isP (g7))), (9, newS w4.heap.size 29 (ptA false zl)), (10, newS w4.heap.size 29 (ptA false zl)), (19, pu (PtV (pB))), (20, pu (isS (toS (X)))), (21, pu (PtV (pmul (lowN (toS (X))) (pB)))), (22, pu (PtV (pB))), (23, pu (isS (toS (Y)))), (24, pu (PtV (pmul (lowN (toS (Y))) (pB))))]) (by kernel_rfl) 8 [] (fun d _ _ _ _ h => by cases d <;> exact h) (by intro l hl; cases hl) [5, 6, 7] [19, 20, 21, 22, 23, 24, 9, 10] [21, 24, 9, 10] [(6, 9), (7, 10)] (by kernel_rfl) (by kernel_rfl) (by kernel_rfl) (by kernel_rfl) (by kernel_rfl) (by kernel_rfl) ⟨rfl, rfl, rfl, trivial⟩ ?_ ?_
  · refine FStepsX.cons rfl (FStepW.plain rfl fun a w hS hE => OpTo.rdP 19 (.tmp 7) rfl rfl (g7) (hE 7 (by kernel_rfl)) (B7.out.touch hS notin_nil) P15.out (fun _ h => h)) ?_
    refine FStepsX.cons rfl (FStepW.plain rfl fun a w hS hE => OpTo.move rfl ⟨dOfW.of 20 rfl (hE 5 (by kernel_rfl)), Touch.refl _ _⟩) ?_
    refine FStepsX.cons rfl (FStepW.plain rfl fun a w hS hE => OpTo.call #[a.tmps.getD 19 undef, a.tmps.getD 20 undef] rfl Tryd.func7 (by kernel_rfl) (by kernel_rfl) (args2 ..) ((pmul_v (hE 19 (by kernel_rfl)) (hE 20 (by kernel_rfl)) w).mono fun _ _ h => Gives.toW 21 rfl (fun _ _ h => h) h)) ?_
    refine FStepsX.cons rfl (FStepW.plain rfl fun a w hS hE => OpTo.rdP 22 (.tmp 7) rfl rfl (g7) (hE 7 (by kernel_rfl)) (B7.out.touch hS notin_nil) P15.out (fun _ h => h)) ?_
    refine FStepsX.cons rfl (FStepW.plain rfl fun a w hS hE => OpTo.move rfl ⟨dOfW.of 23 rfl (hE 6 (by kernel_rfl)), Touch.refl _ _⟩) ?_
    refine FStepsX.cons rfl (FStepW.plain rfl fun a w hS hE => OpTo.call #[a.tmps.getD 22 undef, a.tmps.getD 23 undef] rfl Tryd.func7 (by kernel_rfl) (by kernel_rfl) (args2 ..) ((pmul_v (hE 22 (by kernel_rfl)) (hE 23 (by kernel_rfl)) w).mono fun _ _ h => Gives.toW 24 rfl (fun _ _ h => h) h)) ?_
    refine FStepsX.new 9 29 (ptA false zl) rfl rfl (fun _ _ => exec_alloc_pt rfl) rfl ?_
    refine FStepsX.new 10 29 (ptA false zl) rfl rfl (fun _ _ => exec_alloc_pt rfl) rfl ?_
    exact FStepsX.nil
  intro f w5 hS hF hA
  obtain ⟨h21, h24, h9, h10, -⟩ := hF
  obtain ⟨b21, l21, q21, e21⟩ := h21
  have P21 := Lib.hid q21
  clear q21
  obtain ⟨b24, l24, q24, e24⟩ := h24
  have P24 := Lib.hid q24
  clear q24
  obtain ⟨g9, e9, z9, b9⟩ := h9
  obtain ⟨g10, e10, z10, b10⟩ := h10
  have ne9_10 : g9 ≠ g10 := fun e => hA (6, 9) (by simp) (7, 10) (by simp) (by decide) (by rw [e9, e10, e])
  have NE9_10 := Lib.hid ne9_10
  clear ne9_10
  have NE7_9 := Lib.hid (ne_new B7.out b9)
  have NE7_10 := Lib.hid (ne_new B7.out b10)
  clear hA
  replace B7 := Lib.hid (B7.out.touch hS notin_nil)
  have B9 := Lib.hid z9
  have HB9 := Lib.hid (Nat.le_trans HT.out.size b9)
  clear z9 b9
  have B10 := Lib.hid z10
  have HB10 := Lib.hid (Nat.le_trans HT.out.size b10)
  clear z10 b10
  replace HT := Lib.hid (HT.out.trans hS)
  clear hS
  simp only [setAll, List.setIfInBounds_toArray, List.set_cons_zero, List.set_cons_succ, e21, e24, e9, e10]
  show wpList _ _ _ [_, _] _ _
  refine wpList_store_row rfl 29 (.tmp 9) (.tmp 21) rfl g9 (ptA b21 l21) rfl rfl 29 (ptA false zl) B9.out (by rw [ptA_size P21.out.len]; exact infoP) ((ptA_size zl_len).trans (ptA_size P21.out.len).symm) (ptA_one b21 l21) ?_
  refine wpList_store_row rfl 29 (.tmp 10) (.tmp 24) rfl g10 (ptA b24 l24) rfl rfl 29 (ptA false zl) (B10.out.frow (Ne.symm NE9_10.out) (ptA b21 l21)) (by rw [ptA_size P24.out.len]; exact infoP) ((ptA_size zl_len).trans (ptA_size P24.out.len).symm) (ptA_one b24 l24) ?_
  refine wpList_nil ?_
  simp only [Act.put]
  have B7' := ((B7.out.frow NE7_9.out (ptA b21 l21)).frow NE7_10.out (ptA b24 l24))
  have B9' := ((B9.out.setRow (ptA b21 l21)).frow NE9_10.out (ptA b24 l24))
  have B10' := ((B10.out.frow (Ne.symm NE9_10.out) (ptA b21 l21)).setRow (ptA b24 l24))
  have HT' := ((HT.out.setRowE (.inr HB9.out) (ptA b21 l21)).setRowE (.inr HB10.out) (ptA b24 l24))
  obtain ⟨w6, hw6⟩ : ∃ w6, w6 = ((w5.setRow g9 (ptA b21 l21)).setRow g10 (ptA b24 l24)) := ⟨_, rfl⟩
  rw [← hw6] at HT' B7' B9' B10'
  rw [← hw6]
  clear hw6 HT B7 B9 B10
  have B7 := Lib.hid B7'
  clear B7'
  have B9 := Lib.hid B9'
  clear B9'
  have B10 := Lib.hid B10'
  clear B10'
  have HT := Lib.hid HT'
  clear HT'
  clear e21 e24 e9 e10
  go_upto_region 5 with fail
  refine wp_region_flowX (lookW [(4, pu (isB true)), (5, pu (isS (toS (X)))), (6, pu (isS (toS (Y)))), (7, pu (isP (g7))), (8, pu (isS (toS (S)))), (9, pu (isP (g9))), (10, pu (isP (g10))), (25, pu (PtV (pB))), (26, pu (isS (toS (S)))), (27, pu (PtV (pmul (lowN (toS (S))) (pB)))), (28, pu (PtV (pmul (lowN (toS (X))) (pB)))), (29, pu (PtV (pmul (lowN (toS (Y))) (pB)))), (30, pu (PtV (padd (pmul (lowN (toS (X))) (pB)) (pmul (lowN (toS (Y))) (pB))))), (31, pu (isB true)), (32, pu (isB true)), (33, pu (PtV (pB))), (34, pu (isS (toS (X)))), (35, pu (isS (toS (N)))), (36, pu (PtV (pmul (lowN (toS (N))) (pB)))), (37, pu (PtV (pmul (lowN (toS (X))) (pB)))), (38, pu (PtV (pneg (pmul (lowN (toS (X))) (pB))))), (39, pu (isB true)), (40, pu (isB true)), (41, pu (isB true)), (42, pu (PtV (pmul (lowN (toS (X))) (pB)))), (43, pu (isS (toS (Y)))), (44, pu (PtV (pmul (lowN (toS (Y))) (pmul (lowN (toS (X))) (pB))))), (45, pu (PtV (pmul (lowN (toS (Y))) (pB)))), (46, pu (isS (toS (X)))), (47, pu (PtV (pmul (lowN (toS (X))) (pmul (lowN (toS (Y))) (pB))))), (48, pu (isB true)), (49, pu (isB true)), (50, pu (isB true)), (51, pu (isB true)), (52, pu (isB true))]) (by kernel_rfl) 29 [] (fun d _ _ _ _ h => by cases d <;> exact h) (by intro l hl; cases hl) [5, 6, 7, 8, 9, 10] [25, 26, 27, 28, 29, 30, 31, 32, 33, 34, 35, 36, 37, 38, 39, 40, 41, 42, 43, 44, 45, 46, 47, 48, 49, 50, 51, 52, 4] [4] [] (by kernel_rfl) (by kernel_rfl) (by kernel_rfl) (by kernel_rfl) (by kernel_rfl) (by kernel_rfl) ⟨rfl, rfl, rfl, rfl, rfl, rfl, trivial⟩ ?_ ?_
  · refine FStepsX.cons rfl (FStepW.plain rfl fun a w hS hE => OpTo.rdP 25 (.tmp 7) rfl rfl (g7) (hE 7 (by kernel_rfl)) (B7.out.touch hS notin_nil) P15.out (fun _ h => h)) ?_
    refine FStepsX.cons rfl (FStepW.plain rfl fun a w hS hE => OpTo.move rfl ⟨dOfW.of 26 rfl (hE 8 (by kernel_rfl)), Touch.refl _ _⟩) ?_
    refine FStepsX.cons rfl (FStepW.plain rfl fun a w hS hE => OpTo.call #[a.tmps.getD 25 undef, a.tmps.getD 26 undef] rfl Tryd.func7 (by kernel_rfl) (by kernel_rfl) (args2 ..) ((pmul_v (hE 25 (by kernel_rfl)) (hE 26 (by kernel_rfl)) w).mono fun _ _ h => Gives.toW 27 rfl (fun _ _ h => h) h)) ?_
    refine FStepsX.cons rfl (FStepW.plain rfl fun a w hS hE => OpTo.rdP 28 (.tmp 9) rfl rfl (g9) (hE 9 (by kernel_rfl)) (B9.out.touch hS notin_nil) P21.out (fun _ h => h)) ?_
    refine FStepsX.cons rfl (FStepW.plain rfl fun a w hS hE => OpTo.rdP 29 (.tmp 10) rfl rfl (g10) (hE 10 (by kernel_rfl)) (B10.out.touch hS notin_nil) P24.out (fun _ h => h)) ?_
    refine FStepsX.cons rfl (FStepW.plain rfl fun a w hS hE => OpTo.call #[a.tmps.getD 28 undef, a.tmps.getD 29 undef] rfl Tryd.func9 (by kernel_rfl) (by kernel_rfl) (args2 ..) ((padd_v (hE 28 (by kernel_rfl)) (hE 29 (by kernel_rfl)) w).mono fun _ _ h => Gives.toW 30 rfl (fun _ _ h => h) h)) ?_
    refine FStepsX.cons rfl (FStepW.plain rfl fun a w hS hE => OpTo.call #[a.tmps.getD 27 undef, a.tmps.getD 30 undef] rfl Tryd.func8 (by kernel_rfl) (by kernel_rfl) (args2 ..) ((psame_b (hE 27 (by kernel_rfl)) (hE 30 (by kernel_rfl)) (samePt_of Q31.out) w).mono fun _ _ h => Gives.toW 31 rfl (fun _ _ h => h) h)) ?_
    refine FStepsX.cons rfl (FStepW.plain rfl fun a w hS hE => OpTo.move rfl ⟨dOfW.of 32 rfl (hE 31 (by kernel_rfl)), Touch.refl _ _⟩) ?_
    refine FStepsX.cons rfl (FStepW.go 32 rfl rfl (fun _ _ h => h) fun a w hS hE => OpTo.rdP 33 (.tmp 7) rfl rfl (g7) (hE 7 (by kernel_rfl)) (B7.out.touch hS notin_nil) P15.out (fun _ h => h)) ?_
    refine FStepsX.cons rfl (FStepW.go 32 rfl rfl (fun _ _ h => h) fun a w hS hE => OpTo.move rfl ⟨dOfW.of 34 rfl (hE 5 (by kernel_rfl)), Touch.refl _ _⟩) ?_
    refine FStepsX.cons rfl (FStepW.go 32 rfl rfl (fun _ _ h => h) fun a w hS hE => OpTo.call #[a.tmps.getD 34 undef] rfl Tryd.func10 (by kernel_rfl) (by kernel_rfl) (args1 ..) (((fun _ => sc_neg_v (hE 34 (by kernel_rfl)) KN.out (Hord.out.touch (HT.out.trans hS))) w).mono fun _ _ h => Gives.toW 35 rfl (fun _ _ h => h) h)) ?_
    refine FStepsX.cons rfl (FStepW.go 32 rfl rfl (fun _ _ h => h) fun a w hS hE => OpTo.call #[a.tmps.getD 33 undef, a.tmps.getD 35 undef] rfl Tryd.func7 (by kernel_rfl) (by kernel_rfl) (args2 ..) ((pmul_v (hE 33 (by kernel_rfl)) (hE 35 (by kernel_rfl)) w).mono fun _ _ h => Gives.toW 36 rfl (fun _ _ h => h) h)) ?_
    refine FStepsX.cons rfl (FStepW.go 32 rfl rfl (fun _ _ h => h) fun a w hS hE => OpTo.rdP 37 (.tmp 9) rfl rfl (g9) (hE 9 (by kernel_rfl)) (B9.out.touch hS notin_nil) P21.out (fun _ h => h)) ?_
    refine FStepsX.cons rfl (FStepW.go 32 rfl rfl (fun _ _ h => h) fun a w hS hE => OpTo.call #[a.tmps.getD 37 undef] rfl Tryd.func11 (by kernel_rfl) (by kernel_rfl) (args1 ..) ((pneg_v (hE 37 (by kernel_rfl)) w).mono fun _ _ h => Gives.toW 38 rfl (fun _ _ h => h) h)) ?_
    refine FStepsX.cons rfl (FStepW.go 32 rfl rfl (fun _ _ h => h) fun a w hS hE => OpTo.call #[a.tmps.getD 36 undef, a.tmps.getD 38 undef] rfl Tryd.func8 (by kernel_rfl) (by kernel_rfl) (args2 ..) ((psame_b (hE 36 (by kernel_rfl)) (hE 38 (by kernel_rfl)) (samePt_of Q39.out) w).mono fun _ _ h => Gives.toW 39 rfl (fun _ _ h => h) h)) ?_
    refine FStepsX.cons rfl (FStepW.plain rfl fun a w hS hE => OpTo.pick true rfl (hE 32 (by kernel_rfl)) ⟨dOfW.of 40 rfl (hE 39 (by kernel_rfl)), Touch.refl _ _⟩) ?_
    refine FStepsX.cons rfl (FStepW.plain rfl fun a w hS hE => OpTo.move rfl ⟨dOfW.of 41 rfl (hE 40 (by kernel_rfl)), Touch.refl _ _⟩) ?_
    refine FStepsX.cons rfl (FStepW.go 41 rfl rfl (fun _ _ h => h) fun a w hS hE => OpTo.rdP 42 (.tmp 9) rfl rfl (g9) (hE 9 (by kernel_rfl)) (B9.out.touch hS notin_nil) P21.out (fun _ h => h)) ?_
    refine FStepsX.cons rfl (FStepW.go 41 rfl rfl (fun _ _ h => h) fun a w hS hE => OpTo.move rfl ⟨dOfW.of 43 rfl (hE 6 (by kernel_rfl)), Touch.refl _ _⟩) ?_
    refine FStepsX.cons rfl (FStepW.go 41 rfl rfl (fun _ _ h => h) fun a w hS hE => OpTo.call #[a.tmps.getD 42 undef, a.tmps.getD 43 undef] rfl Tryd.func7 (by kernel_rfl) (by kernel_rfl) (args2 ..) ((pmul_v (hE 42 (by kernel_rfl)) (hE 43 (by kernel_rfl)) w).mono fun _ _ h => Gives.toW 44 rfl (fun _ _ h => h) h)) ?_
    refine FStepsX.cons rfl (FStepW.go 41 rfl rfl (fun _ _ h => h) fun a w hS hE => OpTo.rdP 45 (.tmp 10) rfl rfl (g10) (hE 10 (by kernel_rfl)) (B10.out.touch hS notin_nil) P24.out (fun _ h => h)) ?_
    refine FStepsX.cons rfl (FStepW.go 41 rfl rfl (fun _ _ h => h) fun a w hS hE => OpTo.move rfl ⟨dOfW.of 46 rfl (hE 5 (by kernel_rfl)), Touch.refl _ _⟩) ?_
    refine FStepsX.cons rfl (FStepW.go 41 rfl rfl (fun _ _ h => h) fun a w hS hE => OpTo.call #[a.tmps.getD 45 undef, a.tmps.getD 46 undef] rfl Tryd.func7 (by kernel_rfl) (by kernel_rfl) (args2 ..) ((pmul_v (hE 45 (by kernel_rfl)) (hE 46 (by kernel_rfl)) w).mono fun _ _ h => Gives.toW 47 rfl (fun _ _ h => h) h)) ?_
    refine FStepsX.cons rfl (FStepW.go 41 rfl rfl (fun _ _ h => h) fun a w hS hE => OpTo.call #[a.tmps.getD 44 undef, a.tmps.getD 47 undef] rfl Tryd.func8 (by kernel_rfl) (by kernel_rfl) (args2 ..) ((psame_b (hE 44 (by kernel_rfl)) (hE 47 (by kernel_rfl)) (samePt_of (swap_B _ _ _)) w).mono fun _ _ h => Gives.toW 48 rfl (fun _ _ h => h) h)) ?_
    refine FStepsX.cons rfl (FStepW.plain rfl fun a w hS hE => OpTo.pick true rfl (hE 41 (by kernel_rfl)) ⟨dOfW.of 49 rfl (hE 48 (by kernel_rfl)), Touch.refl _ _⟩) ?_
    refine FStepsX.cons rfl (FStepW.plain rfl fun a w hS hE => OpTo.move rfl ⟨dOfW.of 50 rfl (hE 49 (by kernel_rfl)), Touch.refl _ _⟩) ?_
    refine FStepsX.cons rfl (FStepW.go 50 rfl rfl (fun _ _ h => h) fun a w hS hE => OpTo.call #[] rfl Tryd.func12 (by kernel_rfl) (by kernel_rfl) (args0 ..) ((fixed_v w).mono fun _ _ h => Gives.toW 51 rfl (fun _ _ h => h) h)) ?_
    refine FStepsX.cons rfl (FStepW.plain rfl fun a w hS hE => OpTo.pick true rfl (hE 50 (by kernel_rfl)) ⟨dOfW.of 52 rfl (hE 51 (by kernel_rfl)), Touch.refl _ _⟩) ?_
    refine FStepsX.cons rfl (FStepW.plain rfl fun a w hS hE => OpTo.assign rfl ⟨dOfW.of 4 rfl (hE 52 (by kernel_rfl)), Touch.refl _ _⟩) ?_
    exact FStepsX.nil
  intro f w7 hS hF hA
  obtain ⟨h4, -⟩ := hF
  have e4 : f 4 = .bool true := h4
  clear h4
  clear hA
  replace B7 := Lib.hid (B7.out.touch hS notin_nil)
  replace B9 := Lib.hid (B9.out.touch hS notin_nil)
  replace B10 := Lib.hid (B10.out.touch hS notin_nil)
  replace HT := Lib.hid (HT.out.trans hS)
  clear hS
  simp only [setAll, List.setIfInBounds_toArray, List.set_cons_zero, List.set_cons_succ, e4]
  show wpList _ _ _ [] _ _
  refine wpList_nil ?_
  clear e4
  go_wp2_with fail
  go_ret
  exact ⟨rfl, HT.out⟩
end Go.Proofs.YtbgpgbfiadhddaaDoor
