/- syngraphlaw06.PointOdd: the walk. -/
import Derived.Test.YtbgpgbfiadhddaaPm24
namespace Go.Proofs.Ytbgpgbfiadhddaa
open Go Go.RowKit
theorem enc_neg_low (P : Pt) : (encS P).extract 0 31 = (encS (pneg P)).extract 0 31 := by
  apply bl_inj
  rw [bl_extractE, bl_extractE]
  have hl : ∀ Q : Pt, (bl (encS Q)).length = 32 := fun Q => by rw [bl_len, enc_size']
  refine List.ext_getElem? fun j => ?_
  by_cases hj : j < 31
  · rw [List.getElem?_take_of_lt hj, List.getElem?_take_of_lt hj]
    have hg : ∀ Q : Pt, (bl (encS Q))[j]? = some (Q.y.val / 2 ^ (8 * j) % 256) := fun Q => by
      have := toS_at (encN Q) j (by omega)
      rw [List.getD_eq_getElem?_getD, List.getElem?_eq_getElem (by have := hl Q; unfold encS at this; omega)] at this
      unfold encS
      rw [List.getElem?_eq_getElem (by have := hl Q; unfold encS at this; omega)]
      rw [Option.getD_some] at this
      rw [this]
      unfold encN
      rw [enc_low _ _ _ hj]
    rw [hg, hg]
    rfl
  · rw [List.getElem?_eq_none (by rw [List.length_take, hl]; omega), List.getElem?_eq_none (by rw [List.length_take, hl]; omega)]
theorem last_enc (P : Pt) : (bl (encS P)).getD 31 0 = P.y.val / 2 ^ (8 * 31) % 256 + 128 * (P.x.val % 2) := by
  unfold encS
  rw [toS_at _ _ (by decide)]
  exact enc_top _ _ (Nat.lt_trans P.y.isLt PP_255) (Nat.mod_lt _ (by decide))
theorem xor128_all : ∀ q : Fin 128, bits .xor .u8 (q.val : Int) ((q.val + 128 : Nat) : Int) = 128 ∧ bits .xor .u8 ((q.val + 128 : Nat) : Int) (q.val : Int) = 128 := by decide
theorem gr_nz {N0 : Nat} [NeZero N0] : (0 : Fin N0) = -0 := by grind
/-- The last bytes of a point and of its negative: they differ by 128. -/
theorem odd_last {P : Pt} (h : P ≠ pneg P) : bits .xor .u8 (((bl (encS P)).getD 31 0 : Nat) : Int) (((bl (encS (pneg P))).getD 31 0 : Nat) : Int) = 128 := by
  have hx0 : P.x.val ≠ 0 := fun h0 => h (by
    have hz : P.x = 0 := Fin.ext (by rw [h0]; simp)
    refine PtG.ext' ?_ rfl
    show P.x = -P.x
    rw [hz]
    exact gr_nz)
  have hn : (pneg P).x.val = negF P.x.val := by
    have : ff (negF P.x.val) = -P.x := by rw [ff_neg P.x.isLt, ff_val]
    show (-P.x).val = _
    rw [← this]
    exact ff_v (negF_lt _)
  rw [last_enc, last_enc, hn]
  show bits .xor .u8 ((P.y.val / 2 ^ (8 * 31) % 256 + 128 * (P.x.val % 2) : Nat) : Int) ((P.y.val / 2 ^ (8 * 31) % 256 + 128 * (negF P.x.val % 2) : Nat) : Int) = 128
  have h1 := y_top P
  have h2 : P.y.val / 2 ^ (8 * 31) % 256 < 128 := Nat.lt_of_le_of_lt (Nat.mod_le ..) h1
  generalize P.y.val / 2 ^ (8 * 31) % 256 = q at *
  by_cases ho : P.x.val % 2 = 1
  · have h3 := neg_par P.x.isLt ho
    have h4 : negF P.x.val % 2 = 0 := by omega
    rw [ho, h4]
    exact (xor128_all ⟨q, h2⟩).2
  · have h3 := neg_par' P.x.isLt ho hx0
    have h4 : P.x.val % 2 = 0 := by omega
    rw [h4, h3]
    exact (xor128_all ⟨q, h2⟩).1
theorem encS_inj {P Q : Pt} (h : encS P = encS Q) : P = Q := by
  have h1 := congrArg decP h
  rwa [(dec_enc P).2, (dec_enc Q).2] at h1
theorem str_no {a b : ByteArray} (h : a ≠ b) : (a.toList == b.toList) = false := by rw [str_beqE]; exact decide_eq_false h
set_option maxRecDepth 100000 in
set_option maxHeartbeats 4000000 in
theorem podd_walk (s : ByteArray) (w : World) : Calls Try.prog 7 #[.string s] w fun e w' => e = .returned (.bool true) ∧ Touch [] w w' := by
  by_cases hP : someP s = pneg (someP s)
  case pos =>
    have K35 := Lib.hid (samePt_of hP)
    have K38 := Lib.hid (str_of (congrArg encS hP))
    clear hP
    go_enter Try.func7, Try.ntmps7
    go_upto_region 0 with fail
    refine wp_region_list ?_
    refine wpList_run (v := .bool false) rfl (exec_assignV rfl rfl) ?_
    refine wpList_nil ?_
    simp only [Act.put, List.setIfInBounds_toArray, List.set_cons_zero, List.set_cons_succ]
    have HT := Lib.hid (Touch.refl [] w)
    go_upto_region 1 with fail
    refine wp_region_list (wpList_flowP 5 (lookW [(0, pu (isS (s))), (7, pu (SomV (someP (s)))), (8, pu (isS (s))), (9, pu (SomV (someP (s)))), (10, pu (PtV (someP (s)))), (11, pu (RfV (someP (s))))]) [0] [8, 9, 7, 10, 11] [10, 11] (by kernel_rfl) (by kernel_rfl) (by kernel_rfl) ⟨rfl, trivial⟩ ?_ ?_)
    · refine FStepsW.cons (FStepW.plain rfl fun a w hS hE => OpTo.move rfl ⟨dOfW.of 8 rfl (hE 0 (by kernel_rfl)), Touch.refl _ _⟩) ?_
      refine FStepsW.cons (FStepW.plain rfl fun a w hS hE => OpTo.call #[a.tmps.getD 8 undef] rfl Try.func14 (by kernel_rfl) (by kernel_rfl) (args1 ..) ((some_v (hE 8 (by kernel_rfl)) w).mono fun _ _ h => Gives.toW 9 rfl (fun _ _ h => h) h)) ?_
      refine FStepsW.cons (FStepW.plain rfl fun a w hS hE => OpTo.move rfl ⟨dOfW.of 7 rfl (hE 9 (by kernel_rfl)), Touch.refl _ _⟩) ?_
      refine FStepsW.cons (FStepW.plain rfl fun a w hS hE => OpTo.extS0 10 _ rfl rfl (hE 7 (by kernel_rfl)) (fun _ h => h)) ?_
      refine FStepsW.cons (FStepW.plain rfl fun a w hS hE => OpTo.extS1 11 _ rfl rfl (hE 7 (by kernel_rfl)) (fun _ h => h)) ?_
      exact FStepsW.nil
    intro f w1 hS hF
    obtain ⟨h10, h11, -⟩ := hF
    obtain ⟨b10, l10, q10, e10⟩ := h10
    have P10 := Lib.hid q10
    clear q10
    obtain ⟨X11, Y11, Z11, rr11, e11⟩ := h11
    have RR11 := Lib.hid rr11
    clear rr11
    replace HT := Lib.hid (HT.out.trans hS)
    clear hS
    simp only [setAll, List.setIfInBounds_toArray, List.set_cons_zero, List.set_cons_succ, e10, e11]
    show wpList _ _ _ [_, _, _, _] _ _
    refine wpList_run rfl (exec_alloc_pt rfl) ?_
    refine wpList_run rfl (exec_alloc_rp rfl) ?_
    simp only [Act.put, List.setIfInBounds_toArray, List.set_cons_zero, List.set_cons_succ]
    obtain ⟨w2, g3, g4, hW, eg3, eg4, b3, b4, ht, hb3, hb4, ne3_4⟩ := start2 w1 28 (ptA false zl) 33 #[.string ⟨#[]⟩, .string ⟨#[]⟩, .string ⟨#[]⟩]
    rw [← hW]
    rw [← eg4]
    rw [← eg3]
    have NE3_4 := Lib.hid ne3_4
    have B3 := Lib.hid b3
    have HB3 := Lib.hid (Nat.le_trans HT.out.size hb3)
    have B4 := Lib.hid b4
    have HB4 := Lib.hid (Nat.le_trans HT.out.size hb4)
    replace HT := Lib.hid (HT.out.trans ht)
    clear hW eg3 eg4 b3 b4 ht hb3 hb4 ne3_4
    refine wpList_store_row rfl 28 (.tmp 3) (.tmp 10) rfl g3 (ptA b10 l10) rfl rfl 28 (ptA false zl) B3.out (by rw [ptA_size P10.out.len]; exact infoP) ((ptA_size zl_len).trans (ptA_size P10.out.len).symm) (ptA_one b10 l10) ?_
    refine wpList_store_row rfl 33 (.tmp 4) (.tmp 11) rfl g4 #[.string (toS X11), .string (toS Y11), .string (toS Z11)] rfl rfl 33 #[.string ⟨#[]⟩, .string ⟨#[]⟩, .string ⟨#[]⟩] (B4.out.frow (Ne.symm NE3_4.out) (ptA b10 l10)) infoR rfl (rp_one ..) ?_
    refine wpList_nil ?_
    simp only [Act.put]
    have B3' := ((B3.out.setRow (ptA b10 l10)).frow NE3_4.out #[.string (toS X11), .string (toS Y11), .string (toS Z11)])
    have B4' := ((B4.out.frow (Ne.symm NE3_4.out) (ptA b10 l10)).setRow #[.string (toS X11), .string (toS Y11), .string (toS Z11)])
    have HT' := ((HT.out.setRowE (.inr HB3.out) (ptA b10 l10)).setRowE (.inr HB4.out) #[.string (toS X11), .string (toS Y11), .string (toS Z11)])
    obtain ⟨w3, hw3⟩ : ∃ w3, w3 = ((w2.setRow g3 (ptA b10 l10)).setRow g4 #[.string (toS X11), .string (toS Y11), .string (toS Z11)]) := ⟨_, rfl⟩
    rw [← hw3] at HT' B3' B4'
    rw [← hw3]
    clear hw3 HT B3 B4
    have B3 := Lib.hid B3'
    clear B3'
    have B4 := Lib.hid B4'
    clear B4'
    have HT := Lib.hid HT'
    clear HT'
    clear B4 HB4
    clear e10 e11
    go_upto_region 2 with fail
    refine wp_region_flowX (lookW [(3, pu (isP (g3))), (5, pu (isS (encS (someP (s))))), (6, pu (isS (encS (pneg (someP (s)))))), (12, pu (PtV (someP (s)))), (13, pu (isS (encS (someP (s))))), (14, pu (PtV (someP (s)))), (15, pu (PtV (pneg (someP (s))))), (16, pu (isS (encS (pneg (someP (s))))))]) (by kernel_rfl) 7 [] (fun d _ _ _ _ h => by cases d <;> exact h) (by intro l hl; cases hl) [3] [12, 13, 14, 15, 16, 5, 6] [5, 6] [] (by kernel_rfl) (by kernel_rfl) (by kernel_rfl) (by kernel_rfl) (by kernel_rfl) (by kernel_rfl) ⟨rfl, trivial⟩ ?_ ?_
    · refine FStepsX.cons rfl (FStepW.plain rfl fun a w hS hE => OpTo.rdP 12 (.tmp 3) rfl rfl (g3) (hE 3 (by kernel_rfl)) (B3.out.touch hS notin_nil) P10.out (fun _ h => h)) ?_
      refine FStepsX.cons rfl (FStepW.plain rfl fun a w hS hE => OpTo.call #[a.tmps.getD 12 undef] rfl Try.func11 (by kernel_rfl) (by kernel_rfl) (args1 ..) ((penc_v (hE 12 (by kernel_rfl)) w).mono fun _ _ h => Gives.toW 13 rfl (fun _ _ h => h) h)) ?_
      refine FStepsX.cons rfl (FStepW.plain rfl fun a w hS hE => OpTo.rdP 14 (.tmp 3) rfl rfl (g3) (hE 3 (by kernel_rfl)) (B3.out.touch hS notin_nil) P10.out (fun _ h => h)) ?_
      refine FStepsX.cons rfl (FStepW.plain rfl fun a w hS hE => OpTo.call #[a.tmps.getD 14 undef] rfl Try.func17 (by kernel_rfl) (by kernel_rfl) (args1 ..) ((pneg_v (hE 14 (by kernel_rfl)) w).mono fun _ _ h => Gives.toW 15 rfl (fun _ _ h => h) h)) ?_
      refine FStepsX.cons rfl (FStepW.plain rfl fun a w hS hE => OpTo.call #[a.tmps.getD 15 undef] rfl Try.func11 (by kernel_rfl) (by kernel_rfl) (args1 ..) ((penc_v (hE 15 (by kernel_rfl)) w).mono fun _ _ h => Gives.toW 16 rfl (fun _ _ h => h) h)) ?_
      refine FStepsX.cons rfl (FStepW.plain rfl fun a w hS hE => OpTo.assign rfl ⟨dOfW.of 5 rfl (hE 13 (by kernel_rfl)), Touch.refl _ _⟩) ?_
      refine FStepsX.cons rfl (FStepW.plain rfl fun a w hS hE => OpTo.assign rfl ⟨dOfW.of 6 rfl (hE 16 (by kernel_rfl)), Touch.refl _ _⟩) ?_
      exact FStepsX.nil
    intro f w4 hS hF hA
    obtain ⟨h5, h6, -⟩ := hF
    have e5 : f 5 = .string (encS (someP (s))) := h5
    clear h5
    have e6 : f 6 = .string (encS (pneg (someP (s)))) := h6
    clear h6
    clear hA
    replace B3 := Lib.hid (B3.out.touch hS notin_nil)
    replace HT := Lib.hid (HT.out.trans hS)
    clear hS
    simp only [setAll, List.setIfInBounds_toArray, List.set_cons_zero, List.set_cons_succ, e5, e6]
    show wpList _ _ _ [] _ _
    refine wpList_nil ?_
    clear e5 e6
    go_upto_region 3 with fail
    refine wp_region_flowX (lookW [(5, pu (isS (encS (someP (s))))), (6, pu (isS (encS (pneg (someP (s)))))), (17, pu (isS (encS (someP (s))))), (18, pu (isV (.int .i64 (((encS (someP (s))).size : Int))))), (19, pu (isB false)), (20, pu (isB false)), (21, pu (isS (encS (pneg (someP (s)))))), (22, pu (isV (.int .i64 (((encS (pneg (someP (s)))).size : Int))))), (23, pu (isB false)), (24, pu (isB false)), (25, pu (isB false)), (26, pu (isS (encS (someP (s))))), (27, pu (isS ((encS (someP (s))).extract 0 31))), (28, pu (isS (encS (pneg (someP (s)))))), (29, pu (isS ((encS (pneg (someP (s)))).extract 0 31))), (30, pu (isB false)), (31, pu (isB false))]) (by kernel_rfl) 15 [] (fun d _ _ _ _ h => by cases d <;> exact h) (by intro l hl; cases hl) [5, 6] [17, 18, 19, 20, 21, 22, 23, 24, 25, 26, 27, 28, 29, 30, 31] [31] [] (by kernel_rfl) (by kernel_rfl) (by kernel_rfl) (by kernel_rfl) (by kernel_rfl) (by kernel_rfl) ⟨rfl, rfl, trivial⟩ ?_ ?_
    · refine FStepsX.cons rfl (FStepW.plain rfl fun a w hS hE => OpTo.move rfl ⟨dOfW.of 17 rfl (hE 5 (by kernel_rfl)), Touch.refl _ _⟩) ?_
      refine FStepsX.cons rfl (FStepW.plain rfl fun a w hS hE => OpTo.lenS Try.underlying9 (encS (someP (s))) rfl (hE 17 (by kernel_rfl)) ⟨dOfW.of 18 rfl rfl, Touch.refl _ _⟩) ?_
      refine FStepsX.cons rfl (FStepW.plain rfl fun a w hS hE => OpTo.neI (((encS (someP (s))).size : Int)) (32) rfl (hE 18 (by kernel_rfl)) rfl ⟨dOfW.of 19 rfl (by rw [(decide_eq_true (by rw [enc_size']; rfl) : decide (((encS (someP (s))).size : Int) = 32) = true)]; rfl), Touch.refl _ _⟩) ?_
      refine FStepsX.cons rfl (FStepW.plain rfl fun a w hS hE => OpTo.move rfl ⟨dOfW.of 20 rfl (hE 19 (by kernel_rfl)), Touch.refl _ _⟩) ?_
      refine FStepsX.cons rfl (FStepW.go 20 rfl rfl (fun _ _ h => h) fun a w hS hE => OpTo.move rfl ⟨dOfW.of 21 rfl (hE 6 (by kernel_rfl)), Touch.refl _ _⟩) ?_
      refine FStepsX.cons rfl (FStepW.go 20 rfl rfl (fun _ _ h => h) fun a w hS hE => OpTo.lenS Try.underlying9 (encS (pneg (someP (s)))) rfl (hE 21 (by kernel_rfl)) ⟨dOfW.of 22 rfl rfl, Touch.refl _ _⟩) ?_
      refine FStepsX.cons rfl (FStepW.go 20 rfl rfl (fun _ _ h => h) fun a w hS hE => OpTo.neI (((encS (pneg (someP (s)))).size : Int)) (32) rfl (hE 22 (by kernel_rfl)) rfl ⟨dOfW.of 23 rfl (by rw [(decide_eq_true (by rw [enc_size']; rfl) : decide (((encS (pneg (someP (s)))).size : Int) = 32) = true)]; rfl), Touch.refl _ _⟩) ?_
      refine FStepsX.cons rfl (FStepW.plain rfl fun a w hS hE => OpTo.pick false rfl (hE 20 (by kernel_rfl)) ⟨dOfW.of 24 rfl (hE 23 (by kernel_rfl)), Touch.refl _ _⟩) ?_
      refine FStepsX.cons rfl (FStepW.plain rfl fun a w hS hE => OpTo.move rfl ⟨dOfW.of 25 rfl (hE 24 (by kernel_rfl)), Touch.refl _ _⟩) ?_
      refine FStepsX.cons rfl (FStepW.go 25 rfl rfl (fun _ _ h => h) fun a w hS hE => OpTo.move rfl ⟨dOfW.of 26 rfl (hE 5 (by kernel_rfl)), Touch.refl _ _⟩) ?_
      refine FStepsX.cons rfl (FStepW.go 25 rfl rfl (fun _ _ h => h) fun a w hS hE => OpTo.sliceTo 27 (encS (someP (s))) 31 rfl rfl (hE 26 (by kernel_rfl)) rfl (by rw [enc_size']; decide) rfl) ?_
      refine FStepsX.cons rfl (FStepW.go 25 rfl rfl (fun _ _ h => h) fun a w hS hE => OpTo.move rfl ⟨dOfW.of 28 rfl (hE 6 (by kernel_rfl)), Touch.refl _ _⟩) ?_
      refine FStepsX.cons rfl (FStepW.go 25 rfl rfl (fun _ _ h => h) fun a w hS hE => OpTo.sliceTo 29 (encS (pneg (someP (s)))) 31 rfl rfl (hE 28 (by kernel_rfl)) rfl (by rw [enc_size']; decide) rfl) ?_
      refine FStepsX.cons rfl (FStepW.go 25 rfl rfl (fun _ _ h => h) fun a w hS hE => OpTo.neS ((encS (someP (s))).extract 0 31) ((encS (pneg (someP (s)))).extract 0 31) rfl (hE 27 (by kernel_rfl)) (hE 29 (by kernel_rfl)) ⟨dOfW.of 30 rfl (by rw [str_of (enc_neg_low (someP (s)))]; rfl), Touch.refl _ _⟩) ?_
      refine FStepsX.cons rfl (FStepW.plain rfl fun a w hS hE => OpTo.pick false rfl (hE 25 (by kernel_rfl)) ⟨dOfW.of 31 rfl (hE 30 (by kernel_rfl)), Touch.refl _ _⟩) ?_
      exact FStepsX.nil
    intro f w5 hS hF hA
    obtain ⟨h31, -⟩ := hF
    have e31 : f 31 = .bool false := h31
    clear h31
    clear hA
    replace B3 := Lib.hid (B3.out.touch hS notin_nil)
    replace HT := Lib.hid (HT.out.trans hS)
    clear hS
    simp only [setAll, List.setIfInBounds_toArray, List.set_cons_zero, List.set_cons_succ, e31]
    show wpList _ _ _ [] _ _
    refine wpList_nil ?_
    clear e31
    go_upto_region 5 with fail
    refine wp_region_flowX (lookW [(2, pu (isB true)), (3, pu (isP (g3))), (5, pu (isS (encS (someP (s))))), (6, pu (isS (encS (pneg (someP (s)))))), (32, pu (PtV (someP (s)))), (33, pu (PtV (someP (s)))), (34, pu (PtV (pneg (someP (s))))), (35, pu (isB true)), (36, pu (isS (encS (someP (s))))), (37, pu (isS (encS (pneg (someP (s)))))), (38, pu (isB true)), (39, pu (isB true)), (40, pu (isB true)), (41, pu (isS (encS (someP (s))))), (42, pu (isS (encS (pneg (someP (s)))))), (43, pu (isB true)), (44, pu (isB true)), (45, pu (isU)), (46, pu (isU)), (47, pu (isU)), (48, pu (isU)), (49, pu (isU)), (50, pu (isU)), (51, pu (isB true)), (52, pu (isB true)), (53, pu (isB true)), (54, pu (isB true)), (55, pu (isB true))]) (by kernel_rfl) 25 [] (fun d _ _ _ _ h => by cases d <;> exact h) (by intro l hl; cases hl) [3, 5, 6] [32, 33, 34, 35, 36, 37, 38, 39, 40, 41, 42, 43, 44, 45, 46, 47, 48, 49, 50, 51, 52, 53, 54, 55, 2] [2] [] (by kernel_rfl) (by kernel_rfl) (by kernel_rfl) (by kernel_rfl) (by kernel_rfl) (by kernel_rfl) ⟨rfl, rfl, rfl, trivial⟩ ?_ ?_
    · refine FStepsX.cons rfl (FStepW.plain rfl fun a w hS hE => OpTo.rdP 32 (.tmp 3) rfl rfl (g3) (hE 3 (by kernel_rfl)) (B3.out.touch hS notin_nil) P10.out (fun _ h => h)) ?_
      refine FStepsX.cons rfl (FStepW.plain rfl fun a w hS hE => OpTo.rdP 33 (.tmp 3) rfl rfl (g3) (hE 3 (by kernel_rfl)) (B3.out.touch hS notin_nil) P10.out (fun _ h => h)) ?_
      refine FStepsX.cons rfl (FStepW.plain rfl fun a w hS hE => OpTo.call #[a.tmps.getD 33 undef] rfl Try.func17 (by kernel_rfl) (by kernel_rfl) (args1 ..) ((pneg_v (hE 33 (by kernel_rfl)) w).mono fun _ _ h => Gives.toW 34 rfl (fun _ _ h => h) h)) ?_
      refine FStepsX.cons rfl (FStepW.plain rfl fun a w hS hE => OpTo.call #[a.tmps.getD 32 undef, a.tmps.getD 34 undef] rfl Try.func19 (by kernel_rfl) (by kernel_rfl) (args2 ..) ((psame_b (hE 32 (by kernel_rfl)) (hE 34 (by kernel_rfl)) K35.out w).mono fun _ _ h => Gives.toW 35 rfl (fun _ _ h => h) h)) ?_
      refine FStepsX.cons rfl (FStepW.plain rfl fun a w hS hE => OpTo.move rfl ⟨dOfW.of 36 rfl (hE 5 (by kernel_rfl)), Touch.refl _ _⟩) ?_
      refine FStepsX.cons rfl (FStepW.plain rfl fun a w hS hE => OpTo.move rfl ⟨dOfW.of 37 rfl (hE 6 (by kernel_rfl)), Touch.refl _ _⟩) ?_
      refine FStepsX.cons rfl (FStepW.plain rfl fun a w hS hE => OpTo.eqS (encS (someP (s))) (encS (pneg (someP (s)))) rfl (hE 36 (by kernel_rfl)) (hE 37 (by kernel_rfl)) ⟨dOfW.of 38 rfl (by rw [K38.out]; rfl), Touch.refl _ _⟩) ?_
      refine FStepsX.cons rfl (FStepW.plain rfl fun a w hS hE => OpTo.eqB Try.underlying4 true true rfl (hE 35 (by kernel_rfl)) (hE 38 (by kernel_rfl)) ⟨dOfW.of 39 rfl (Eq.refl (Value.bool true)), Touch.refl _ _⟩) ?_
      refine FStepsX.cons rfl (FStepW.plain rfl fun a w hS hE => OpTo.move rfl ⟨dOfW.of 40 rfl (hE 39 (by kernel_rfl)), Touch.refl _ _⟩) ?_
      refine FStepsX.cons rfl (FStepW.go 40 rfl rfl (fun _ _ h => h) fun a w hS hE => OpTo.move rfl ⟨dOfW.of 41 rfl (hE 5 (by kernel_rfl)), Touch.refl _ _⟩) ?_
      refine FStepsX.cons rfl (FStepW.go 40 rfl rfl (fun _ _ h => h) fun a w hS hE => OpTo.move rfl ⟨dOfW.of 42 rfl (hE 6 (by kernel_rfl)), Touch.refl _ _⟩) ?_
      refine FStepsX.cons rfl (FStepW.go 40 rfl rfl (fun _ _ h => h) fun a w hS hE => OpTo.eqS (encS (someP (s))) (encS (pneg (someP (s)))) rfl (hE 41 (by kernel_rfl)) (hE 42 (by kernel_rfl)) ⟨dOfW.of 43 rfl (by rw [K38.out]; rfl), Touch.refl _ _⟩) ?_
      refine FStepsX.cons rfl (FStepW.go 40 rfl rfl (fun _ _ h => h) fun a w hS hE => OpTo.move rfl ⟨dOfW.of 44 rfl (hE 43 (by kernel_rfl)), Touch.refl _ _⟩) ?_
      refine FStepsX.cons rfl (FStepW.no 44 rfl rfl (fun _ _ h => h) (fun _ => dOfW.of 45 rfl rfl)) ?_
      refine FStepsX.cons rfl (FStepW.no 44 rfl rfl (fun _ _ h => h) (fun _ => dOfW.of 46 rfl rfl)) ?_
      refine FStepsX.cons rfl (FStepW.no 44 rfl rfl (fun _ _ h => h) (fun _ => dOfW.of 47 rfl rfl)) ?_
      refine FStepsX.cons rfl (FStepW.no 44 rfl rfl (fun _ _ h => h) (fun _ => dOfW.of 48 rfl rfl)) ?_
      refine FStepsX.cons rfl (FStepW.no 44 rfl rfl (fun _ _ h => h) (fun _ => dOfW.of 49 rfl rfl)) ?_
      refine FStepsX.cons rfl (FStepW.no 44 rfl rfl (fun _ _ h => h) (fun _ => dOfW.of 50 rfl rfl)) ?_
      refine FStepsX.cons rfl (FStepW.go 40 rfl rfl (fun _ _ h => h) fun a w hS hE => OpTo.pick true rfl (hE 44 (by kernel_rfl)) ⟨dOfW.of 51 rfl (Eq.refl (Value.bool true)), Touch.refl _ _⟩) ?_
      refine FStepsX.cons rfl (FStepW.plain rfl fun a w hS hE => OpTo.pick true rfl (hE 40 (by kernel_rfl)) ⟨dOfW.of 52 rfl (hE 51 (by kernel_rfl)), Touch.refl _ _⟩) ?_
      refine FStepsX.cons rfl (FStepW.plain rfl fun a w hS hE => OpTo.move rfl ⟨dOfW.of 53 rfl (hE 52 (by kernel_rfl)), Touch.refl _ _⟩) ?_
      refine FStepsX.cons rfl (FStepW.go 53 rfl rfl (fun _ _ h => h) fun a w hS hE => OpTo.call #[] rfl Try.func13 (by kernel_rfl) (by kernel_rfl) (args0 ..) ((fixed_v w).mono fun _ _ h => Gives.toW 54 rfl (fun _ _ h => h) h)) ?_
      refine FStepsX.cons rfl (FStepW.plain rfl fun a w hS hE => OpTo.pick true rfl (hE 53 (by kernel_rfl)) ⟨dOfW.of 55 rfl (hE 54 (by kernel_rfl)), Touch.refl _ _⟩) ?_
      refine FStepsX.cons rfl (FStepW.plain rfl fun a w hS hE => OpTo.assign rfl ⟨dOfW.of 2 rfl (hE 55 (by kernel_rfl)), Touch.refl _ _⟩) ?_
      exact FStepsX.nil
    intro f w6 hS hF hA
    obtain ⟨h2, -⟩ := hF
    have e2 : f 2 = .bool true := h2
    clear h2
    clear hA
    replace B3 := Lib.hid (B3.out.touch hS notin_nil)
    replace HT := Lib.hid (HT.out.trans hS)
    clear hS
    simp only [setAll, List.setIfInBounds_toArray, List.set_cons_zero, List.set_cons_succ, e2]
    show wpList _ _ _ [] _ _
    refine wpList_nil ?_
    clear e2
    go_wp2_with fail
    go_ret
    exact ⟨rfl, HT.out⟩
  case neg =>
    have K35 := Lib.hid (samePt_no hP)
    have K38 := Lib.hid (str_no fun e => hP (encS_inj e))
    have h49 := odd_last hP
    obtain ⟨u, hu⟩ : ∃ u, (bl (encS (someP s))).getD 31 0 = u := ⟨_, rfl⟩
    obtain ⟨v, hv⟩ : ∃ v, (bl (encS (pneg (someP s)))).getD 31 0 = v := ⟨_, rfl⟩
    rw [hu, hv] at h49
    have K49 := Lib.hid h49
    have KU := Lib.hid hu
    have KV := Lib.hid hv
    clear hP h49 hu hv
    go_enter Try.func7, Try.ntmps7
    go_upto_region 0 with fail
    refine wp_region_list ?_
    refine wpList_run (v := .bool false) rfl (exec_assignV rfl rfl) ?_
    refine wpList_nil ?_
    simp only [Act.put, List.setIfInBounds_toArray, List.set_cons_zero, List.set_cons_succ]
    have HT := Lib.hid (Touch.refl [] w)
    go_upto_region 1 with fail
    refine wp_region_list (wpList_flowP 5 (lookW [(0, pu (isS (s))), (7, pu (SomV (someP (s)))), (8, pu (isS (s))), (9, pu (SomV (someP (s)))), (10, pu (PtV (someP (s)))), (11, pu (RfV (someP (s))))]) [0] [8, 9, 7, 10, 11] [10, 11] (by kernel_rfl) (by kernel_rfl) (by kernel_rfl) ⟨rfl, trivial⟩ ?_ ?_)
    · refine FStepsW.cons (FStepW.plain rfl fun a w hS hE => OpTo.move rfl ⟨dOfW.of 8 rfl (hE 0 (by kernel_rfl)), Touch.refl _ _⟩) ?_
      refine FStepsW.cons (FStepW.plain rfl fun a w hS hE => OpTo.call #[a.tmps.getD 8 undef] rfl Try.func14 (by kernel_rfl) (by kernel_rfl) (args1 ..) ((some_v (hE 8 (by kernel_rfl)) w).mono fun _ _ h => Gives.toW 9 rfl (fun _ _ h => h) h)) ?_
      refine FStepsW.cons (FStepW.plain rfl fun a w hS hE => OpTo.move rfl ⟨dOfW.of 7 rfl (hE 9 (by kernel_rfl)), Touch.refl _ _⟩) ?_
      refine FStepsW.cons (FStepW.plain rfl fun a w hS hE => OpTo.extS0 10 _ rfl rfl (hE 7 (by kernel_rfl)) (fun _ h => h)) ?_
      refine FStepsW.cons (FStepW.plain rfl fun a w hS hE => OpTo.extS1 11 _ rfl rfl (hE 7 (by kernel_rfl)) (fun _ h => h)) ?_
      exact FStepsW.nil
    intro f w1 hS hF
    obtain ⟨h10, h11, -⟩ := hF
    obtain ⟨b10, l10, q10, e10⟩ := h10
    have P10 := Lib.hid q10
    clear q10
    obtain ⟨X11, Y11, Z11, rr11, e11⟩ := h11
    have RR11 := Lib.hid rr11
    clear rr11
    replace HT := Lib.hid (HT.out.trans hS)
    clear hS
    simp only [setAll, List.setIfInBounds_toArray, List.set_cons_zero, List.set_cons_succ, e10, e11]
    show wpList _ _ _ [_, _, _, _] _ _
    refine wpList_run rfl (exec_alloc_pt rfl) ?_
    refine wpList_run rfl (exec_alloc_rp rfl) ?_
    simp only [Act.put, List.setIfInBounds_toArray, List.set_cons_zero, List.set_cons_succ]
    obtain ⟨w2, g3, g4, hW, eg3, eg4, b3, b4, ht, hb3, hb4, ne3_4⟩ := start2 w1 28 (ptA false zl) 33 #[.string ⟨#[]⟩, .string ⟨#[]⟩, .string ⟨#[]⟩]
    rw [← hW]
    rw [← eg4]
    rw [← eg3]
    have NE3_4 := Lib.hid ne3_4
    have B3 := Lib.hid b3
    have HB3 := Lib.hid (Nat.le_trans HT.out.size hb3)
    have B4 := Lib.hid b4
    have HB4 := Lib.hid (Nat.le_trans HT.out.size hb4)
    replace HT := Lib.hid (HT.out.trans ht)
    clear hW eg3 eg4 b3 b4 ht hb3 hb4 ne3_4
    refine wpList_store_row rfl 28 (.tmp 3) (.tmp 10) rfl g3 (ptA b10 l10) rfl rfl 28 (ptA false zl) B3.out (by rw [ptA_size P10.out.len]; exact infoP) ((ptA_size zl_len).trans (ptA_size P10.out.len).symm) (ptA_one b10 l10) ?_
    refine wpList_store_row rfl 33 (.tmp 4) (.tmp 11) rfl g4 #[.string (toS X11), .string (toS Y11), .string (toS Z11)] rfl rfl 33 #[.string ⟨#[]⟩, .string ⟨#[]⟩, .string ⟨#[]⟩] (B4.out.frow (Ne.symm NE3_4.out) (ptA b10 l10)) infoR rfl (rp_one ..) ?_
    refine wpList_nil ?_
    simp only [Act.put]
    have B3' := ((B3.out.setRow (ptA b10 l10)).frow NE3_4.out #[.string (toS X11), .string (toS Y11), .string (toS Z11)])
    have B4' := ((B4.out.frow (Ne.symm NE3_4.out) (ptA b10 l10)).setRow #[.string (toS X11), .string (toS Y11), .string (toS Z11)])
    have HT' := ((HT.out.setRowE (.inr HB3.out) (ptA b10 l10)).setRowE (.inr HB4.out) #[.string (toS X11), .string (toS Y11), .string (toS Z11)])
    obtain ⟨w3, hw3⟩ : ∃ w3, w3 = ((w2.setRow g3 (ptA b10 l10)).setRow g4 #[.string (toS X11), .string (toS Y11), .string (toS Z11)]) := ⟨_, rfl⟩
    rw [← hw3] at HT' B3' B4'
    rw [← hw3]
    clear hw3 HT B3 B4
    have B3 := Lib.hid B3'
    clear B3'
    have B4 := Lib.hid B4'
    clear B4'
    have HT := Lib.hid HT'
    clear HT'
    clear B4 HB4
    clear e10 e11
    go_upto_region 2 with fail
    refine wp_region_flowX (lookW [(3, pu (isP (g3))), (5, pu (isS (encS (someP (s))))), (6, pu (isS (encS (pneg (someP (s)))))), (12, pu (PtV (someP (s)))), (13, pu (isS (encS (someP (s))))), (14, pu (PtV (someP (s)))), (15, pu (PtV (pneg (someP (s))))), (16, pu (isS (encS (pneg (someP (s))))))]) (by kernel_rfl) 7 [] (fun d _ _ _ _ h => by cases d <;> exact h) (by intro l hl; cases hl) [3] [12, 13, 14, 15, 16, 5, 6] [5, 6] [] (by kernel_rfl) (by kernel_rfl) (by kernel_rfl) (by kernel_rfl) (by kernel_rfl) (by kernel_rfl) ⟨rfl, trivial⟩ ?_ ?_
    · refine FStepsX.cons rfl (FStepW.plain rfl fun a w hS hE => OpTo.rdP 12 (.tmp 3) rfl rfl (g3) (hE 3 (by kernel_rfl)) (B3.out.touch hS notin_nil) P10.out (fun _ h => h)) ?_
      refine FStepsX.cons rfl (FStepW.plain rfl fun a w hS hE => OpTo.call #[a.tmps.getD 12 undef] rfl Try.func11 (by kernel_rfl) (by kernel_rfl) (args1 ..) ((penc_v (hE 12 (by kernel_rfl)) w).mono fun _ _ h => Gives.toW 13 rfl (fun _ _ h => h) h)) ?_
      refine FStepsX.cons rfl (FStepW.plain rfl fun a w hS hE => OpTo.rdP 14 (.tmp 3) rfl rfl (g3) (hE 3 (by kernel_rfl)) (B3.out.touch hS notin_nil) P10.out (fun _ h => h)) ?_
      refine FStepsX.cons rfl (FStepW.plain rfl fun a w hS hE => OpTo.call #[a.tmps.getD 14 undef] rfl Try.func17 (by kernel_rfl) (by kernel_rfl) (args1 ..) ((pneg_v (hE 14 (by kernel_rfl)) w).mono fun _ _ h => Gives.toW 15 rfl (fun _ _ h => h) h)) ?_
      refine FStepsX.cons rfl (FStepW.plain rfl fun a w hS hE => OpTo.call #[a.tmps.getD 15 undef] rfl Try.func11 (by kernel_rfl) (by kernel_rfl) (args1 ..) ((penc_v (hE 15 (by kernel_rfl)) w).mono fun _ _ h => Gives.toW 16 rfl (fun _ _ h => h) h)) ?_
      refine FStepsX.cons rfl (FStepW.plain rfl fun a w hS hE => OpTo.assign rfl ⟨dOfW.of 5 rfl (hE 13 (by kernel_rfl)), Touch.refl _ _⟩) ?_
      refine FStepsX.cons rfl (FStepW.plain rfl fun a w hS hE => OpTo.assign rfl ⟨dOfW.of 6 rfl (hE 16 (by kernel_rfl)), Touch.refl _ _⟩) ?_
      exact FStepsX.nil
    intro f w4 hS hF hA
    obtain ⟨h5, h6, -⟩ := hF
    have e5 : f 5 = .string (encS (someP (s))) := h5
    clear h5
    have e6 : f 6 = .string (encS (pneg (someP (s)))) := h6
    clear h6
    clear hA
    replace B3 := Lib.hid (B3.out.touch hS notin_nil)
    replace HT := Lib.hid (HT.out.trans hS)
    clear hS
    simp only [setAll, List.setIfInBounds_toArray, List.set_cons_zero, List.set_cons_succ, e5, e6]
    show wpList _ _ _ [] _ _
    refine wpList_nil ?_
    clear e5 e6
    go_upto_region 3 with fail
    refine wp_region_flowX (lookW [(5, pu (isS (encS (someP (s))))), (6, pu (isS (encS (pneg (someP (s)))))), (17, pu (isS (encS (someP (s))))), (18, pu (isV (.int .i64 (((encS (someP (s))).size : Int))))), (19, pu (isB false)), (20, pu (isB false)), (21, pu (isS (encS (pneg (someP (s)))))), (22, pu (isV (.int .i64 (((encS (pneg (someP (s)))).size : Int))))), (23, pu (isB false)), (24, pu (isB false)), (25, pu (isB false)), (26, pu (isS (encS (someP (s))))), (27, pu (isS ((encS (someP (s))).extract 0 31))), (28, pu (isS (encS (pneg (someP (s)))))), (29, pu (isS ((encS (pneg (someP (s)))).extract 0 31))), (30, pu (isB false)), (31, pu (isB false))]) (by kernel_rfl) 15 [] (fun d _ _ _ _ h => by cases d <;> exact h) (by intro l hl; cases hl) [5, 6] [17, 18, 19, 20, 21, 22, 23, 24, 25, 26, 27, 28, 29, 30, 31] [31] [] (by kernel_rfl) (by kernel_rfl) (by kernel_rfl) (by kernel_rfl) (by kernel_rfl) (by kernel_rfl) ⟨rfl, rfl, trivial⟩ ?_ ?_
    · refine FStepsX.cons rfl (FStepW.plain rfl fun a w hS hE => OpTo.move rfl ⟨dOfW.of 17 rfl (hE 5 (by kernel_rfl)), Touch.refl _ _⟩) ?_
      refine FStepsX.cons rfl (FStepW.plain rfl fun a w hS hE => OpTo.lenS Try.underlying9 (encS (someP (s))) rfl (hE 17 (by kernel_rfl)) ⟨dOfW.of 18 rfl rfl, Touch.refl _ _⟩) ?_
      refine FStepsX.cons rfl (FStepW.plain rfl fun a w hS hE => OpTo.neI (((encS (someP (s))).size : Int)) (32) rfl (hE 18 (by kernel_rfl)) rfl ⟨dOfW.of 19 rfl (by rw [(decide_eq_true (by rw [enc_size']; rfl) : decide (((encS (someP (s))).size : Int) = 32) = true)]; rfl), Touch.refl _ _⟩) ?_
      refine FStepsX.cons rfl (FStepW.plain rfl fun a w hS hE => OpTo.move rfl ⟨dOfW.of 20 rfl (hE 19 (by kernel_rfl)), Touch.refl _ _⟩) ?_
      refine FStepsX.cons rfl (FStepW.go 20 rfl rfl (fun _ _ h => h) fun a w hS hE => OpTo.move rfl ⟨dOfW.of 21 rfl (hE 6 (by kernel_rfl)), Touch.refl _ _⟩) ?_
      refine FStepsX.cons rfl (FStepW.go 20 rfl rfl (fun _ _ h => h) fun a w hS hE => OpTo.lenS Try.underlying9 (encS (pneg (someP (s)))) rfl (hE 21 (by kernel_rfl)) ⟨dOfW.of 22 rfl rfl, Touch.refl _ _⟩) ?_
      refine FStepsX.cons rfl (FStepW.go 20 rfl rfl (fun _ _ h => h) fun a w hS hE => OpTo.neI (((encS (pneg (someP (s)))).size : Int)) (32) rfl (hE 22 (by kernel_rfl)) rfl ⟨dOfW.of 23 rfl (by rw [(decide_eq_true (by rw [enc_size']; rfl) : decide (((encS (pneg (someP (s)))).size : Int) = 32) = true)]; rfl), Touch.refl _ _⟩) ?_
      refine FStepsX.cons rfl (FStepW.plain rfl fun a w hS hE => OpTo.pick false rfl (hE 20 (by kernel_rfl)) ⟨dOfW.of 24 rfl (hE 23 (by kernel_rfl)), Touch.refl _ _⟩) ?_
      refine FStepsX.cons rfl (FStepW.plain rfl fun a w hS hE => OpTo.move rfl ⟨dOfW.of 25 rfl (hE 24 (by kernel_rfl)), Touch.refl _ _⟩) ?_
      refine FStepsX.cons rfl (FStepW.go 25 rfl rfl (fun _ _ h => h) fun a w hS hE => OpTo.move rfl ⟨dOfW.of 26 rfl (hE 5 (by kernel_rfl)), Touch.refl _ _⟩) ?_
      refine FStepsX.cons rfl (FStepW.go 25 rfl rfl (fun _ _ h => h) fun a w hS hE => OpTo.sliceTo 27 (encS (someP (s))) 31 rfl rfl (hE 26 (by kernel_rfl)) rfl (by rw [enc_size']; decide) rfl) ?_
      refine FStepsX.cons rfl (FStepW.go 25 rfl rfl (fun _ _ h => h) fun a w hS hE => OpTo.move rfl ⟨dOfW.of 28 rfl (hE 6 (by kernel_rfl)), Touch.refl _ _⟩) ?_
      refine FStepsX.cons rfl (FStepW.go 25 rfl rfl (fun _ _ h => h) fun a w hS hE => OpTo.sliceTo 29 (encS (pneg (someP (s)))) 31 rfl rfl (hE 28 (by kernel_rfl)) rfl (by rw [enc_size']; decide) rfl) ?_
      refine FStepsX.cons rfl (FStepW.go 25 rfl rfl (fun _ _ h => h) fun a w hS hE => OpTo.neS ((encS (someP (s))).extract 0 31) ((encS (pneg (someP (s)))).extract 0 31) rfl (hE 27 (by kernel_rfl)) (hE 29 (by kernel_rfl)) ⟨dOfW.of 30 rfl (by rw [str_of (enc_neg_low (someP (s)))]; rfl), Touch.refl _ _⟩) ?_
      refine FStepsX.cons rfl (FStepW.plain rfl fun a w hS hE => OpTo.pick false rfl (hE 25 (by kernel_rfl)) ⟨dOfW.of 31 rfl (hE 30 (by kernel_rfl)), Touch.refl _ _⟩) ?_
      exact FStepsX.nil
    intro f w5 hS hF hA
    obtain ⟨h31, -⟩ := hF
    have e31 : f 31 = .bool false := h31
    clear h31
    clear hA
    replace B3 := Lib.hid (B3.out.touch hS notin_nil)
    replace HT := Lib.hid (HT.out.trans hS)
    clear hS
    simp only [setAll, List.setIfInBounds_toArray, List.set_cons_zero, List.set_cons_succ, e31]
    show wpList _ _ _ [] _ _
    refine wpList_nil ?_
    clear e31
    go_upto_region 5 with fail
    refine wp_region_flowX (lookW [(2, pu (isB true)), (3, pu (isP (g3))), (5, pu (isS (encS (someP (s))))), (6, pu (isS (encS (pneg (someP (s)))))), (32, pu (PtV (someP (s)))), (33, pu (PtV (someP (s)))), (34, pu (PtV (pneg (someP (s))))), (35, pu (isB false)), (36, pu (isS (encS (someP (s))))), (37, pu (isS (encS (pneg (someP (s)))))), (38, pu (isB false)), (39, pu (isB true)), (40, pu (isB true)), (41, pu (isS (encS (someP (s))))), (42, pu (isS (encS (pneg (someP (s)))))), (43, pu (isB false)), (44, pu (isB false)), (45, pu (isS (encS (someP (s))))), (46, pu (isV (.int .u8 ((u : Int))))), (47, pu (isS (encS (pneg (someP (s)))))), (48, pu (isV (.int .u8 ((v : Int))))), (49, pu (isV (.int .u8 (128)))), (50, pu (isB true)), (51, pu (isB true)), (52, pu (isB true)), (53, pu (isB true)), (54, pu (isB true)), (55, pu (isB true))]) (by kernel_rfl) 25 [] (fun d _ _ _ _ h => by cases d <;> exact h) (by intro l hl; cases hl) [3, 5, 6] [32, 33, 34, 35, 36, 37, 38, 39, 40, 41, 42, 43, 44, 45, 46, 47, 48, 49, 50, 51, 52, 53, 54, 55, 2] [2] [] (by kernel_rfl) (by kernel_rfl) (by kernel_rfl) (by kernel_rfl) (by kernel_rfl) (by kernel_rfl) ⟨rfl, rfl, rfl, trivial⟩ ?_ ?_
    · refine FStepsX.cons rfl (FStepW.plain rfl fun a w hS hE => OpTo.rdP 32 (.tmp 3) rfl rfl (g3) (hE 3 (by kernel_rfl)) (B3.out.touch hS notin_nil) P10.out (fun _ h => h)) ?_
      refine FStepsX.cons rfl (FStepW.plain rfl fun a w hS hE => OpTo.rdP 33 (.tmp 3) rfl rfl (g3) (hE 3 (by kernel_rfl)) (B3.out.touch hS notin_nil) P10.out (fun _ h => h)) ?_
      refine FStepsX.cons rfl (FStepW.plain rfl fun a w hS hE => OpTo.call #[a.tmps.getD 33 undef] rfl Try.func17 (by kernel_rfl) (by kernel_rfl) (args1 ..) ((pneg_v (hE 33 (by kernel_rfl)) w).mono fun _ _ h => Gives.toW 34 rfl (fun _ _ h => h) h)) ?_
      refine FStepsX.cons rfl (FStepW.plain rfl fun a w hS hE => OpTo.call #[a.tmps.getD 32 undef, a.tmps.getD 34 undef] rfl Try.func19 (by kernel_rfl) (by kernel_rfl) (args2 ..) ((psame_b (hE 32 (by kernel_rfl)) (hE 34 (by kernel_rfl)) K35.out w).mono fun _ _ h => Gives.toW 35 rfl (fun _ _ h => h) h)) ?_
      refine FStepsX.cons rfl (FStepW.plain rfl fun a w hS hE => OpTo.move rfl ⟨dOfW.of 36 rfl (hE 5 (by kernel_rfl)), Touch.refl _ _⟩) ?_
      refine FStepsX.cons rfl (FStepW.plain rfl fun a w hS hE => OpTo.move rfl ⟨dOfW.of 37 rfl (hE 6 (by kernel_rfl)), Touch.refl _ _⟩) ?_
      refine FStepsX.cons rfl (FStepW.plain rfl fun a w hS hE => OpTo.eqS (encS (someP (s))) (encS (pneg (someP (s)))) rfl (hE 36 (by kernel_rfl)) (hE 37 (by kernel_rfl)) ⟨dOfW.of 38 rfl (by rw [K38.out]; rfl), Touch.refl _ _⟩) ?_
      refine FStepsX.cons rfl (FStepW.plain rfl fun a w hS hE => OpTo.eqB Try.underlying4 false false rfl (hE 35 (by kernel_rfl)) (hE 38 (by kernel_rfl)) ⟨dOfW.of 39 rfl (Eq.refl (Value.bool true)), Touch.refl _ _⟩) ?_
      refine FStepsX.cons rfl (FStepW.plain rfl fun a w hS hE => OpTo.move rfl ⟨dOfW.of 40 rfl (hE 39 (by kernel_rfl)), Touch.refl _ _⟩) ?_
      refine FStepsX.cons rfl (FStepW.go 40 rfl rfl (fun _ _ h => h) fun a w hS hE => OpTo.move rfl ⟨dOfW.of 41 rfl (hE 5 (by kernel_rfl)), Touch.refl _ _⟩) ?_
      refine FStepsX.cons rfl (FStepW.go 40 rfl rfl (fun _ _ h => h) fun a w hS hE => OpTo.move rfl ⟨dOfW.of 42 rfl (hE 6 (by kernel_rfl)), Touch.refl _ _⟩) ?_
      refine FStepsX.cons rfl (FStepW.go 40 rfl rfl (fun _ _ h => h) fun a w hS hE => OpTo.eqS (encS (someP (s))) (encS (pneg (someP (s)))) rfl (hE 41 (by kernel_rfl)) (hE 42 (by kernel_rfl)) ⟨dOfW.of 43 rfl (by rw [K38.out]; rfl), Touch.refl _ _⟩) ?_
      refine FStepsX.cons rfl (FStepW.go 40 rfl rfl (fun _ _ h => h) fun a w hS hE => OpTo.move rfl ⟨dOfW.of 44 rfl (hE 43 (by kernel_rfl)), Touch.refl _ _⟩) ?_
      refine FStepsX.cons rfl (FStepW.go 44 rfl rfl (fun _ _ h => h) fun a w hS hE => OpTo.move rfl ⟨dOfW.of 45 rfl (hE 5 (by kernel_rfl)), Touch.refl _ _⟩) ?_
      refine FStepsX.cons rfl (FStepW.go 44 rfl rfl (fun _ _ h => h) fun a w hS hE => OpTo.indexS Try.underlying9 (encS (someP (s))) (31) rfl (hE 45 (by kernel_rfl)) rfl (fx_lt _ 31 (by decide)) ⟨dOfW.of 46 rfl (by rw [KU.out]; rfl), Touch.refl _ _⟩) ?_
      refine FStepsX.cons rfl (FStepW.go 44 rfl rfl (fun _ _ h => h) fun a w hS hE => OpTo.move rfl ⟨dOfW.of 47 rfl (hE 6 (by kernel_rfl)), Touch.refl _ _⟩) ?_
      refine FStepsX.cons rfl (FStepW.go 44 rfl rfl (fun _ _ h => h) fun a w hS hE => OpTo.indexS Try.underlying9 (encS (pneg (someP (s)))) (31) rfl (hE 47 (by kernel_rfl)) rfl (fx_lt _ 31 (by decide)) ⟨dOfW.of 48 rfl (by rw [KV.out]; rfl), Touch.refl _ _⟩) ?_
      refine FStepsX.cons rfl (FStepW.go 44 rfl rfl (fun _ _ h => h) fun a w hS hE => OpTo.pureG (v := .int .u8 128) 49 rfl (by have h46 : a.eval (.tmp 46) = .int .u8 (u : Int) := hE 46 (by kernel_rfl); have h48 : a.eval (.tmp 48) = .int .u8 (v : Int) := hE 48 (by kernel_rfl); have k49 := K49.out; unfold execOp; simp only [h46, h48]; go_simp) rfl) ?_
      refine FStepsX.cons rfl (FStepW.go 44 rfl rfl (fun _ _ h => h) fun a w hS hE => OpTo.eqI .u8 (128) (128) rfl (hE 49 (by kernel_rfl)) rfl ⟨dOfW.of 50 rfl (by rw [(decide_eq_true rfl : decide ((128 : Int) = 128) = true)]; rfl), Touch.refl _ _⟩) ?_
      refine FStepsX.cons rfl (FStepW.go 40 rfl rfl (fun _ _ h => h) fun a w hS hE => OpTo.pick false rfl (hE 44 (by kernel_rfl)) ⟨dOfW.of 51 rfl (hE 50 (by kernel_rfl)), Touch.refl _ _⟩) ?_
      refine FStepsX.cons rfl (FStepW.plain rfl fun a w hS hE => OpTo.pick true rfl (hE 40 (by kernel_rfl)) ⟨dOfW.of 52 rfl (hE 51 (by kernel_rfl)), Touch.refl _ _⟩) ?_
      refine FStepsX.cons rfl (FStepW.plain rfl fun a w hS hE => OpTo.move rfl ⟨dOfW.of 53 rfl (hE 52 (by kernel_rfl)), Touch.refl _ _⟩) ?_
      refine FStepsX.cons rfl (FStepW.go 53 rfl rfl (fun _ _ h => h) fun a w hS hE => OpTo.call #[] rfl Try.func13 (by kernel_rfl) (by kernel_rfl) (args0 ..) ((fixed_v w).mono fun _ _ h => Gives.toW 54 rfl (fun _ _ h => h) h)) ?_
      refine FStepsX.cons rfl (FStepW.plain rfl fun a w hS hE => OpTo.pick true rfl (hE 53 (by kernel_rfl)) ⟨dOfW.of 55 rfl (hE 54 (by kernel_rfl)), Touch.refl _ _⟩) ?_
      refine FStepsX.cons rfl (FStepW.plain rfl fun a w hS hE => OpTo.assign rfl ⟨dOfW.of 2 rfl (hE 55 (by kernel_rfl)), Touch.refl _ _⟩) ?_
      exact FStepsX.nil
    intro f w6 hS hF hA
    obtain ⟨h2, -⟩ := hF
    have e2 : f 2 = .bool true := h2
    clear h2
    clear hA
    replace B3 := Lib.hid (B3.out.touch hS notin_nil)
    replace HT := Lib.hid (HT.out.trans hS)
    clear hS
    simp only [setAll, List.setIfInBounds_toArray, List.set_cons_zero, List.set_cons_succ, e2]
    show wpList _ _ _ [] _ _
    refine wpList_nil ?_
    clear e2
    go_wp2_with fail
    go_ret
    exact ⟨rfl, HT.out⟩
end Go.Proofs.Ytbgpgbfiadhddaa
