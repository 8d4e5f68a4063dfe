/- point.Base. -/
import Derived.Test.YtbgpgbfiadhddaaDoorPtPts
import Derived.Test.YtbgpgbfiadhddaaDoorPtShelf
namespace Go.Proofs.YtbgpgbfiadhddaaDoor
open Go Go.RowKit
def baseS : ByteArray := ⟨#[88, 102, 102, 102, 102, 102, 102, 102, 102, 102, 102, 102, 102, 102, 102, 102, 102, 102, 102, 102, 102, 102, 102, 102, 102, 102, 102, 102, 102, 102, 102, 102]⟩
def repS : ByteArray := ⟨(Lib.repeatL (⟨#[102]⟩ : ByteArray).data.toList 31).toArray⟩
theorem base_eq : ⟨#[88]⟩ ++ repS = baseS := by decide +kernel
theorem base_sz : (⟨#[88]⟩ : ByteArray).size + repS.size ≤ 9223372036854775807 := by decide +kernel
theorem rep_v (w : World) : Calls Tryd.prog 17 #[.string ⟨#[102]⟩, .int .i64 31] w (Gives w (isS repS)) :=
  (Tryd.strings_Repeat ⟨#[102]⟩ 31 w (by decide) (by decide +kernel)).mono fun _ _ ⟨he, hb⟩ => ⟨_, he, rfl, Touch.of_below hb⟩
set_option maxRecDepth 100000 in
set_option maxHeartbeats 4000000 in
theorem pbase_v (w : World) : Calls Tryd.prog 5 #[] w (Gives w (PtV (decP baseS))) := by
  go_enter Tryd.func5, Tryd.ntmps5
  go_upto_region 0 with fail
  refine wp_region_list ?_
  refine wpList_run rfl (exec_alloc_pt rfl) ?_
  refine wpList_nil ?_
  simp only [Act.put, List.setIfInBounds_toArray, List.set_cons_zero]
  obtain ⟨w1, g0, hW, eg0, b0, ht, hb0⟩ := start1 w 29 (ptA false zl)
  rw [← hW]
  rw [← eg0]
  have HT := Lib.hid ht
  have B0 := Lib.hid b0
  have HB0 := Lib.hid hb0
  clear hW eg0 b0 ht hb0
  go_upto_region 1 with fail
  refine wp_region_list (wpList_flowP 7 (lookW [(1, newS w1.heap.size 29 (ptA false zl)), (3, pu (Tup (PtV (decP (baseS))) (.int .i64 (decC (baseS))))), (4, pu (isS (repS))), (5, pu (isS (baseS))), (6, pu (Tup (PtV (decP (baseS))) (.int .i64 (decC (baseS))))), (7, pu (PtV (decP (baseS)))), (8, pu (isV (.int .i64 (decC (baseS)))))]) [] [4, 5, 6, 3, 7, 8, 1] [7, 8, 1] (by kernel_rfl) (by kernel_rfl) (by kernel_rfl) trivial ?_ ?_)
  · refine FStepsW.cons (FStepW.plain rfl fun a w hS hE => OpTo.call #[.string ⟨#[102]⟩, .int .i64 31] rfl Tryd.func17 (by kernel_rfl) (by kernel_rfl) (args2 ..) ((rep_v w).mono fun _ _ h => Gives.toW 4 rfl (fun _ _ h => h) h)) ?_
    refine FStepsW.cons (FStepW.plain rfl fun a w hS hE => OpTo.addS (⟨#[88]⟩) repS rfl rfl (hE 4 (by kernel_rfl)) base_sz ⟨dOfW.of 5 rfl (by rw [base_eq]; rfl), Touch.refl _ _⟩) ?_
    refine FStepsW.cons (FStepW.plain rfl fun a w hS hE => OpTo.call #[a.tmps.getD 5 undef] rfl Tryd.func16 (by kernel_rfl) (by kernel_rfl) (args1 ..) ((pdec_v (hE 5 (by kernel_rfl)) w).mono fun _ _ h => Gives.toW 6 rfl (fun _ _ h => h) h)) ?_
    refine FStepsW.cons (FStepW.plain rfl fun a w hS hE => OpTo.move rfl ⟨dOfW.of 3 rfl (hE 6 (by kernel_rfl)), Touch.refl _ _⟩) ?_
    refine FStepsW.cons (FStepW.plain rfl fun a w hS hE => OpTo.ext0 7 _ rfl rfl (hE 3 (by kernel_rfl)) (fun _ h => h)) ?_
    refine FStepsW.cons (FStepW.plain rfl fun a w hS hE => OpTo.ext1 8 _ rfl rfl (hE 3 (by kernel_rfl)) rfl) ?_
    refine FStepsW.cons (FStepW.plain rfl fun a w hS hE => OpTo.allocG 1 29 (ptA false zl) rfl hS (exec_alloc_pt rfl) rfl) ?_
    exact FStepsW.nil
  intro f w2 hS hF
  obtain ⟨h7, h8, h1, -⟩ := hF
  obtain ⟨b7, l7, q7, e7⟩ := h7
  have P7 := Lib.hid q7
  clear q7
  have e8 : f 8 = .int .i64 (decC (baseS)) := h8
  clear h8
  obtain ⟨g1, e1, z1, b1⟩ := h1
  have NE0_1 := Lib.hid (ne_new B0.out b1)
  replace B0 := Lib.hid (B0.out.touch hS notin_nil)
  have B1 := Lib.hid z1
  have HB1 := Lib.hid (Nat.le_trans HT.out.size b1)
  clear z1 b1
  replace HT := Lib.hid (HT.out.trans hS)
  clear hS
  simp only [setAll, List.setIfInBounds_toArray, List.set_cons_zero, List.set_cons_succ, e7, e8, e1]
  show wpList _ _ _ [_, _] _ _
  refine wpList_store_row rfl 29 (.tmp 1) (.tmp 7) rfl g1 (ptA b7 l7) rfl rfl 29 (ptA false zl) B1.out (by rw [ptA_size P7.out.len]; exact infoP) ((ptA_size zl_len).trans (ptA_size P7.out.len).symm) (ptA_one b7 l7) ?_
  refine wpList_run (v := .int .i64 (decC (baseS))) rfl (exec_assignV rfl rfl) ?_
  refine wpList_nil ?_
  simp only [Act.put, List.setIfInBounds_toArray, List.set_cons_zero, List.set_cons_succ]
  have B0' := (B0.out.frow NE0_1.out (ptA b7 l7))
  have B1' := (B1.out.setRow (ptA b7 l7))
  have HT' := (HT.out.setRowE (.inr HB1.out) (ptA b7 l7))
  obtain ⟨w3, hw3⟩ : ∃ w3, w3 = (w2.setRow g1 (ptA b7 l7)) := ⟨_, rfl⟩
  rw [← hw3] at HT' B0' B1'
  rw [← hw3]
  clear hw3 HT B0 B1
  have B0 := Lib.hid B0'
  clear B0'
  have B1 := Lib.hid B1'
  clear B1'
  have HT := Lib.hid HT'
  clear HT'
  clear e7 e8 e1
  go_upto_region 2 with fail
  refine wp_region_list (wpList_flowP 1 (lookW [(1, pu (isP (g1))), (9, pu (PtV (decP (baseS))))]) [1] [9] [9] (by kernel_rfl) (by kernel_rfl) (by kernel_rfl) ⟨rfl, trivial⟩ ?_ ?_)
  · refine FStepsW.cons (FStepW.plain rfl fun a w hS hE => OpTo.rdP 9 (.tmp 1) rfl rfl (g1) (hE 1 (by kernel_rfl)) (B1.out.touch hS notin_nil) P7.out (fun _ h => h)) ?_
    exact FStepsW.nil
  intro f w4 hS hF
  obtain ⟨h9, -⟩ := hF
  obtain ⟨b9, l9, q9, e9⟩ := h9
  have P9 := Lib.hid q9
  clear q9
  replace B0 := Lib.hid (B0.out.touch hS notin_nil)
  replace B1 := Lib.hid (B1.out.touch hS notin_nil)
  replace HT := Lib.hid (HT.out.trans hS)
  clear hS
  simp only [setAll, List.setIfInBounds_toArray, List.set_cons_zero, List.set_cons_succ, e9]
  show wpList _ _ _ [_] _ _
  refine wpList_store_row rfl 29 (.tmp 0) (.tmp 9) rfl g0 (ptA b9 l9) rfl rfl 29 (ptA false zl) B0.out (by rw [ptA_size P9.out.len]; exact infoP) ((ptA_size zl_len).trans (ptA_size P9.out.len).symm) (ptA_one b9 l9) ?_
  refine wpList_nil ?_
  simp only [Act.put]
  have B0' := (B0.out.setRow (ptA b9 l9))
  have B1' := (B1.out.frow (Ne.symm NE0_1.out) (ptA b9 l9))
  have HT' := (HT.out.setRowE (.inr HB0.out) (ptA b9 l9))
  obtain ⟨w5, hw5⟩ : ∃ w5, w5 = (w4.setRow g0 (ptA b9 l9)) := ⟨_, rfl⟩
  rw [← hw5] at HT' B0' B1'
  rw [← hw5]
  clear hw5 HT B0 B1
  have B0 := Lib.hid B0'
  clear B0'
  have B1 := Lib.hid B1'
  clear B1'
  have HT := Lib.hid HT'
  clear HT'
  clear e9
  go_wp2_with fail
  exact pt_ret Tryd.results5 P9.out.len rfl 29 B0.out HT.out ⟨_, _, P9.out, rfl⟩
end Go.Proofs.YtbgpgbfiadhddaaDoor
