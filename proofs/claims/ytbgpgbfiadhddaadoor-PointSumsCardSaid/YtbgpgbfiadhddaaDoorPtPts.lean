/- PtOf; PtZero; PtAdd; PtNeg; PtDec; PtSame; PtEnc: joined. -/
import Derived.Test.YtbgpgbfiadhddaaDoorPtDecL
import Derived.Test.YtbgpgbfiadhddaaDoorPtEncL
import Derived.Test.YtbgpgbfiadhddaaDoorPtRep
import Derived.Test.YtbgpgbfiadhddaaDoorPtVal
/- point.of, Zero, whole: a point of two numbers, and its fractions. -/
namespace Go.Proofs.YtbgpgbfiadhddaaDoor
open Go Go.RowKit
theorem pt_ret {fn : Func} {p : Tmp} (hres : fn.results = #[.cell p 29]) {w w' : World} {R : Value → Prop} {g : Nat} {b : Bool} {l : List Int} (hl : l.length = 64) {tmps : Array Value} (hp : tmps.getD p undef = .pointer (some ⟨g, 0, none⟩)) (t : TypeId) (hB : Blk w' g t (ptA b l)) (hT : Touch [] w w') (hR : R (ptV b l)) :
    bodyPost Tryd.prog fn (Gives w R) Exit.ret { tmps := tmps, defers := [] } w' :=
  bodyPost_ret (results_cell_row hres _ _ g t (ptA b l) (0, 0) _ hp hB Tryd.underlying29 rfl (by rw [ptA_size hl]; exact infoP)) rfl ⟨_, rfl, hR, hT⟩
theorem qu_ret {fn : Func} {p : Tmp} (hres : fn.results = #[.cell p 27]) {w w' : World} {R : Value → Prop} {g : Nat} {l : List Int} (hl : l.length = 64) {tmps : Array Value} (hp : tmps.getD p undef = .pointer (some ⟨g, 0, none⟩)) (t : TypeId) (hB : Blk w' g t (cellsZ l).toArray) (hT : Touch [] w w') (hR : R (elV l)) :
    bodyPost Tryd.prog fn (Gives w R) Exit.ret { tmps := tmps, defers := [] } w' :=
  bodyPost_ret (results_cell_row hres _ _ g t (cellsZ l).toArray (0, 0) _ hp hB Tryd.underlying27 rfl (by rw [cellsZ_size, hl]; exact infoQ)) rfl ⟨_, rfl, hR, hT⟩
set_option maxRecDepth 100000 in
set_option maxHeartbeats 4000000 in
theorem of_q {X Y : Nat} {x y : Value} (hx : EV X x) (hy : EV Y y) (w : World) : Calls Tryd.prog 41 #[x, y] w (Gives w (PQv X Y 1 (mulF X Y))) := by
  obtain ⟨l2, rfl, r2⟩ := hx.list
  obtain ⟨l3, rfl, r3⟩ := hy.list
  have R2 := Lib.hid r2
  have R3 := Lib.hid r3
  clear r2 r3 hx hy
  go_enter Tryd.func41, Tryd.ntmps41
  go_upto_region 0 with fail
  refine wp_region_list ?_
  refine wpList_run rfl (exec_box rfl rfl) ?_
  refine wpList_run rfl (exec_box rfl rfl) ?_
  refine wpList_run rfl (exec_alloc_pt rfl) ?_
  refine wpList_nil ?_
  simp only [Act.put, List.setIfInBounds_toArray, List.set_cons_zero, List.set_cons_succ]
  obtain ⟨w1, g2, g3, g4, hW, eg2, eg3, eg4, b2, b3, b4, ht, hb2, hb3, hb4, ne2_3, ne2_4, ne3_4⟩ := start3 w 25 (cellsZ l2).toArray 25 (cellsZ l3).toArray 29 (ptA false zl)
  rw [← hW]
  rw [← eg4]
  rw [← eg3]
  rw [← eg2]
  have HT := Lib.hid ht
  have B2 := Lib.hid b2
  have HB2 := Lib.hid hb2
  have B3 := Lib.hid b3
  have HB3 := Lib.hid hb3
  have B4 := Lib.hid b4
  have HB4 := Lib.hid hb4
  have NE2_3 := Lib.hid ne2_3
  have NE2_4 := Lib.hid ne2_4
  have NE3_4 := Lib.hid ne3_4
  clear hW eg2 eg3 eg4 b2 b3 b4 ht hb2 hb3 hb4 ne2_3 ne2_4 ne3_4
  go_upto_region 1 with fail
  refine wp_region_flowX (lookW [(2, pu (isP (g2))), (3, pu (isP (g3))), (5, pu (EV (X))), (6, pu (EV (Y))), (7, pu (EV (1))), (8, pu (EV (X))), (9, pu (EV (Y))), (10, pu (EV (mulF (X) (Y)))), (11, pu (QLv (X) (Y) (1) (mulF (X) (Y)))), (12, pu (PQv (X) (Y) (1) (mulF (X) (Y))))]) (by kernel_rfl) 8 [] (fun d _ _ _ _ h => by cases d <;> exact h) (by intro l hl; cases hl) [2, 3] [5, 6, 7, 8, 9, 10, 11, 12] [12] [] (by kernel_rfl) (by kernel_rfl) (by kernel_rfl) (by kernel_rfl) (by kernel_rfl) (by kernel_rfl) ⟨rfl, rfl, trivial⟩ ?_ ?_
  · refine FStepsX.cons rfl (FStepW.plain rfl fun a w hS hE => OpTo.rdE 5 (.tmp 2) rfl rfl (g2) 0 (hE 2 (by kernel_rfl)) ((fun W hW => RdE.el (B2.out.touch hW notin_nil) R2.out.1 R2.out.2) w hS) (fun _ h => h)) ?_
    refine FStepsX.cons rfl (FStepW.plain rfl fun a w hS hE => OpTo.rdE 6 (.tmp 3) rfl rfl (g3) 0 (hE 3 (by kernel_rfl)) ((fun W hW => RdE.el (B3.out.touch hW notin_nil) R3.out.1 R3.out.2) w hS) (fun _ h => h)) ?_
    refine FStepsX.cons rfl (FStepW.plain rfl fun a w hS hE => OpTo.call #[.int .u64 1] rfl Tryd.func37 (by kernel_rfl) (by kernel_rfl) (args1 ..) ((num_v 1 (by omega) w).mono fun _ _ h => Gives.toW 7 rfl (fun _ _ h => h) h)) ?_
    refine FStepsX.cons rfl (FStepW.plain rfl fun a w hS hE => OpTo.rdE 8 (.tmp 2) rfl rfl (g2) 0 (hE 2 (by kernel_rfl)) ((fun W hW => RdE.el (B2.out.touch hW notin_nil) R2.out.1 R2.out.2) w hS) (fun _ h => h)) ?_
    refine FStepsX.cons rfl (FStepW.plain rfl fun a w hS hE => OpTo.rdE 9 (.tmp 3) rfl rfl (g3) 0 (hE 3 (by kernel_rfl)) ((fun W hW => RdE.el (B3.out.touch hW notin_nil) R3.out.1 R3.out.2) w hS) (fun _ h => h)) ?_
    refine FStepsX.cons rfl (FStepW.plain rfl fun a w hS hE => OpTo.call #[a.tmps.getD 8 undef, a.tmps.getD 9 undef] rfl Tryd.func23 (by kernel_rfl) (by kernel_rfl) (args2 ..) ((mul_v (hE 8 (by kernel_rfl)) (hE 9 (by kernel_rfl)) w).mono fun _ _ h => Gives.toW 10 rfl (fun _ _ h => h) h)) ?_
    refine FStepsX.cons rfl (FStepW.plain rfl fun a w hS hE => OpTo.bldQ 11 _ _ _ _ rfl rfl (hE 5 (by kernel_rfl)) (hE 6 (by kernel_rfl)) (hE 7 (by kernel_rfl)) (hE 10 (by kernel_rfl)) (fun _ h => h)) ?_
    refine FStepsX.cons rfl (FStepW.plain rfl fun a w hS hE => OpTo.bldP 12 _ _ rfl rfl rfl (hE 11 (by kernel_rfl)) (fun _ h => h)) ?_
    exact FStepsX.nil
  intro f w2 hS hF hA
  obtain ⟨h12, -⟩ := hF
  obtain ⟨l12, q12, e12⟩ := h12
  have Q12 := Lib.hid q12
  clear q12
  clear hA
  replace B2 := Lib.hid (B2.out.touch hS notin_nil)
  replace B3 := Lib.hid (B3.out.touch hS notin_nil)
  replace B4 := Lib.hid (B4.out.touch hS notin_nil)
  replace HT := Lib.hid (HT.out.trans hS)
  clear hS
  simp only [setAll, List.setIfInBounds_toArray, List.set_cons_zero, List.set_cons_succ, e12]
  show wpList _ _ _ [_] _ _
  refine wpList_store_row rfl 29 (.tmp 4) (.tmp 12) rfl g4 (ptA true l12) rfl rfl 29 (ptA false zl) B4.out (by rw [ptA_size Q12.out.len]; exact infoP) ((ptA_size zl_len).trans (ptA_size Q12.out.len).symm) (ptA_one true l12) ?_
  refine wpList_nil ?_
  simp only [Act.put]
  have B2' := (B2.out.frow NE2_4.out (ptA true l12))
  have B3' := (B3.out.frow NE3_4.out (ptA true l12))
  have B4' := (B4.out.setRow (ptA true l12))
  have HT' := (HT.out.setRowE (.inr HB4.out) (ptA true l12))
  obtain ⟨w3, hw3⟩ : ∃ w3, w3 = (w2.setRow g4 (ptA true l12)) := ⟨_, rfl⟩
  rw [← hw3] at HT' B2' B3' B4'
  rw [← hw3]
  clear hw3 HT B2 B3 B4
  have B2 := Lib.hid B2'
  clear B2'
  have B3 := Lib.hid B3'
  clear B3'
  have B4 := Lib.hid B4'
  clear B4'
  have HT := Lib.hid HT'
  clear HT'
  clear e12
  go_wp2_with fail
  exact pt_ret Tryd.results41 Q12.out.len rfl 29 B4.out HT.out ⟨_, Q12.out, rfl⟩
end Go.Proofs.YtbgpgbfiadhddaaDoor
/- point.Zero, whole. -/
namespace Go.Proofs.YtbgpgbfiadhddaaDoor
open Go Go.RowKit
set_option maxRecDepth 100000 in
set_option maxHeartbeats 4000000 in
theorem zero_q (w : World) : Calls Tryd.prog 20 #[] w (Gives w (PQv 0 1 1 (mulF 0 1))) := by
  go_enter Tryd.func20, Tryd.ntmps20
  go_upto_region 0 with fail
  refine wp_region_list ?_
  refine wpList_run rfl (exec_alloc_pt rfl) ?_
  refine wpList_nil ?_
  simp only [Act.put, List.setIfInBounds_toArray, List.set_cons_zero]
  obtain ⟨w1, g0, hW, eg0, b0, ht, hb0⟩ := start1 w 29 (ptA false zl)
  rw [← hW]
  rw [← eg0]
  have HT := Lib.hid ht
  have B0 := Lib.hid b0
  have HB0 := Lib.hid hb0
  clear hW eg0 b0 ht hb0
  go_upto_region 1 with fail
  refine wp_region_list (wpList_flowP 3 (lookW [(1, pu (EV (0))), (2, pu (EV (1))), (3, pu (PQv (0) (1) (1) (mulF (0) (1))))]) [] [1, 2, 3] [3] (by kernel_rfl) (by kernel_rfl) (by kernel_rfl) trivial ?_ ?_)
  · refine FStepsW.cons (FStepW.plain rfl fun a w hS hE => build_v rfl fun v hv => ⟨dOfW.of 1 rfl hv, Touch.refl _ _⟩) ?_
    refine FStepsW.cons (FStepW.plain rfl fun a w hS hE => OpTo.call #[.int .u64 1] rfl Tryd.func37 (by kernel_rfl) (by kernel_rfl) (args1 ..) ((num_v 1 (by omega) w).mono fun _ _ h => Gives.toW 2 rfl (fun _ _ h => h) h)) ?_
    refine FStepsW.cons (FStepW.plain rfl fun a w hS hE => OpTo.call #[a.tmps.getD 1 undef, a.tmps.getD 2 undef] rfl Tryd.func41 (by kernel_rfl) (by kernel_rfl) (args2 ..) ((of_q (hE 1 (by kernel_rfl)) (hE 2 (by kernel_rfl)) w).mono fun _ _ h => Gives.toW 3 rfl (fun _ _ h => h) h)) ?_
    exact FStepsW.nil
  intro f w2 hS hF
  obtain ⟨h3, -⟩ := hF
  obtain ⟨l3, q3, e3⟩ := h3
  have Q3 := Lib.hid q3
  clear q3
  replace B0 := Lib.hid (B0.out.touch hS notin_nil)
  replace HT := Lib.hid (HT.out.trans hS)
  clear hS
  simp only [setAll, List.setIfInBounds_toArray, List.set_cons_zero, List.set_cons_succ, e3]
  show wpList _ _ _ [_] _ _
  refine wpList_store_row rfl 29 (.tmp 0) (.tmp 3) rfl g0 (ptA true l3) rfl rfl 29 (ptA false zl) B0.out (by rw [ptA_size Q3.out.len]; exact infoP) ((ptA_size zl_len).trans (ptA_size Q3.out.len).symm) (ptA_one true l3) ?_
  refine wpList_nil ?_
  simp only [Act.put]
  have B0' := (B0.out.setRow (ptA true l3))
  have HT' := (HT.out.setRowE (.inr HB0.out) (ptA true l3))
  obtain ⟨w3, hw3⟩ : ∃ w3, w3 = (w2.setRow g0 (ptA true l3)) := ⟨_, rfl⟩
  rw [← hw3] at HT' B0'
  rw [← hw3]
  clear hw3 HT B0
  have B0 := Lib.hid B0'
  clear B0'
  have HT := Lib.hid HT'
  clear HT'
  clear e3
  go_wp2_with fail
  exact pt_ret Tryd.results20 Q3.out.len rfl 29 B0.out HT.out ⟨_, Q3.out, rfl⟩
set_option maxRecDepth 100000 in
set_option maxHeartbeats 4000000 in
theorem whole_v {P : Pt} {x : Value} (hx : PtV P x) (w : World) : Calls Tryd.prog 22 #[x] w (Gives w (QuV P)) := by
  obtain ⟨b, l1, hl, rfl⟩ := hx
  have p1 := Lib.hid hl
  have P1 := Lib.hid hl.len
  clear hl
  unfold ptV
  cases b
  · skip
    go_enter Tryd.func22, Tryd.ntmps22
    go_upto_region 0 with fail
    refine wp_region_list ?_
    refine wpList_run rfl (exec_box rfl rfl) ?_
    refine wpList_run rfl (exec_alloc_quad rfl) ?_
    refine wpList_nil ?_
    simp only [Act.put, List.setIfInBounds_toArray, List.set_cons_zero, List.set_cons_succ]
    obtain ⟨w1, g1, g2, hW, eg1, eg2, b1, b2, ht, hb1, hb2, ne1_2⟩ := start2 w 29 (ptA false l1) 27 (cellsZ zl).toArray
    rw [← hW]
    rw [← eg2]
    rw [← eg1]
    have HT := Lib.hid ht
    have B1 := Lib.hid b1
    have HB1 := Lib.hid hb1
    have B2 := Lib.hid b2
    have HB2 := Lib.hid hb2
    have NE1_2 := Lib.hid ne1_2
    clear hW eg1 eg2 b1 b2 ht hb1 hb2 ne1_2
    go_upto_region 1 with fail
    refine wp_region_list (wpList_flowP 3 (lookW [(1, pu (isP (g1))), (3, pu (isV (.pointer (some ⟨g1, 0, none⟩)))), (4, pu (isB false)), (5, pu (isB true))]) [1] [3, 4, 5] [5] (by kernel_rfl) (by kernel_rfl) (by kernel_rfl) ⟨rfl, trivial⟩ ?_ ?_)
    · refine FStepsW.cons (FStepW.plain rfl fun a w hS hE => OpTo.pureG (v := .pointer (some ⟨g1, 0, none⟩)) 3 rfl (by have h1 : a.eval (.tmp 1) = .pointer (some ⟨g1, 0, none⟩) := hE 1 (by kernel_rfl); unfold execOp; simp only [h1]; go_simp) rfl) ?_
      refine FStepsW.cons (FStepW.plain rfl fun a w hS hE => OpTo.pureG (v := .bool false) 4 rfl (by have h3 : a.eval (.tmp 3) = .pointer (some ⟨g1, 0, none⟩) := hE 3 (by kernel_rfl); have hcell : w.cell? ⟨g1, 0, none⟩ = some (.bool false) := (fun W hW => Blk.cell_at (B1.out.touch hW notin_nil) 0 rfl) w hS; unfold execOp; simp only [h3]; go_simp) rfl) ?_
      refine FStepsW.cons (FStepW.plain rfl fun a w hS hE => OpTo.not false rfl (hE 4 (by kernel_rfl)) ⟨dOfW.of 5 rfl (Eq.refl (Value.bool true)), Touch.refl _ _⟩) ?_
      exact FStepsW.nil
    intro f w2 hS hF
    obtain ⟨h5, -⟩ := hF
    have e5 : f 5 = .bool true := h5
    clear h5
    replace B1 := Lib.hid (B1.out.touch hS notin_nil)
    replace B2 := Lib.hid (B2.out.touch hS notin_nil)
    replace HT := Lib.hid (HT.out.trans hS)
    clear hS
    simp only [setAll, List.setIfInBounds_toArray, List.set_cons_zero, List.set_cons_succ, e5]
    show wpList _ _ _ [] _ _
    refine wpList_nil ?_
    clear e5
    go_upto_region 2 with fail
    refine wp_region_list (wpList_flowP 2 (lookW [(6, pu (PQv (0) (1) (1) (mulF (0) (1)))), (7, pu (QLv (0) (1) (1) (mulF (0) (1))))]) [] [6, 7] [7] (by kernel_rfl) (by kernel_rfl) (by kernel_rfl) trivial ?_ ?_)
    · refine FStepsW.cons (FStepW.plain rfl fun a w hS hE => OpTo.call #[] rfl Tryd.func20 (by kernel_rfl) (by kernel_rfl) (args0 ..) ((zero_q w).mono fun _ _ h => Gives.toW 6 rfl (fun _ _ h => h) h)) ?_
      refine FStepsW.cons (FStepW.plain rfl fun a w hS hE => OpTo.fieldQ 7 _ rfl rfl (hE 6 (by kernel_rfl)) (fun _ h => h)) ?_
      exact FStepsW.nil
    intro f w3 hS hF
    obtain ⟨h7, -⟩ := hF
    obtain ⟨l7, q7, e7⟩ := h7
    have Q7 := Lib.hid q7
    clear q7
    replace B1 := Lib.hid (B1.out.touch hS notin_nil)
    replace B2 := Lib.hid (B2.out.touch hS notin_nil)
    replace HT := Lib.hid (HT.out.trans hS)
    clear hS
    simp only [setAll, List.setIfInBounds_toArray, List.set_cons_zero, List.set_cons_succ, e7]
    show wpList _ _ _ [_] _ _
    refine wpList_store_row rfl 27 (.tmp 2) (.tmp 7) rfl g2 (cellsZ l7).toArray rfl rfl 27 (cellsZ zl).toArray B2.out (by rw [cellsZ_size, Q7.out.len]; exact infoQ) ((cellsZ_size _).trans ((zl_len).trans ((Q7.out.len).symm.trans (cellsZ_size _).symm))) (cellsZ_one l7) ?_
    refine wpList_nil ?_
    simp only [Act.put]
    have B1' := (B1.out.frow NE1_2.out (cellsZ l7).toArray)
    have B2' := (B2.out.setRow (cellsZ l7).toArray)
    have HT' := (HT.out.setRowE (.inr HB2.out) (cellsZ l7).toArray)
    obtain ⟨w4, hw4⟩ : ∃ w4, w4 = (w3.setRow g2 (cellsZ l7).toArray) := ⟨_, rfl⟩
    rw [← hw4] at HT' B1' B2'
    rw [← hw4]
    clear hw4 HT B1 B2
    have B1 := Lib.hid B1'
    clear B1'
    have B2 := Lib.hid B2'
    clear B2'
    have HT := Lib.hid HT'
    clear HT'
    clear e7
    go_wp2_with fail
    have hz : P = pzero := by
      rcases p1.out with ⟨h, _⟩ | ⟨_, h, _⟩
      · cases h
      · exact h
    exact qu_ret Tryd.results22 Q7.out.len rfl 27 B2.out HT.out (by rw [hz]; exact QLv.qu rep_zero ⟨_, Q7.out, rfl⟩)
  · skip
    go_enter Tryd.func22, Tryd.ntmps22
    go_upto_region 0 with fail
    refine wp_region_list ?_
    refine wpList_run rfl (exec_box rfl rfl) ?_
    refine wpList_run rfl (exec_alloc_quad rfl) ?_
    refine wpList_nil ?_
    simp only [Act.put, List.setIfInBounds_toArray, List.set_cons_zero, List.set_cons_succ]
    obtain ⟨w1, g1, g2, hW, eg1, eg2, b1, b2, ht, hb1, hb2, ne1_2⟩ := start2 w 29 (ptA true l1) 27 (cellsZ zl).toArray
    rw [← hW]
    rw [← eg2]
    rw [← eg1]
    have HT := Lib.hid ht
    have B1 := Lib.hid b1
    have HB1 := Lib.hid hb1
    have B2 := Lib.hid b2
    have HB2 := Lib.hid hb2
    have NE1_2 := Lib.hid ne1_2
    clear hW eg1 eg2 b1 b2 ht hb1 hb2 ne1_2
    go_upto_region 1 with fail
    refine wp_region_list (wpList_flowP 3 (lookW [(1, pu (isP (g1))), (3, pu (isV (.pointer (some ⟨g1, 0, none⟩)))), (4, pu (isB true)), (5, pu (isB false))]) [1] [3, 4, 5] [5] (by kernel_rfl) (by kernel_rfl) (by kernel_rfl) ⟨rfl, trivial⟩ ?_ ?_)
    · refine FStepsW.cons (FStepW.plain rfl fun a w hS hE => OpTo.pureG (v := .pointer (some ⟨g1, 0, none⟩)) 3 rfl (by have h1 : a.eval (.tmp 1) = .pointer (some ⟨g1, 0, none⟩) := hE 1 (by kernel_rfl); unfold execOp; simp only [h1]; go_simp) rfl) ?_
      refine FStepsW.cons (FStepW.plain rfl fun a w hS hE => OpTo.pureG (v := .bool true) 4 rfl (by have h3 : a.eval (.tmp 3) = .pointer (some ⟨g1, 0, none⟩) := hE 3 (by kernel_rfl); have hcell : w.cell? ⟨g1, 0, none⟩ = some (.bool true) := (fun W hW => Blk.cell_at (B1.out.touch hW notin_nil) 0 rfl) w hS; unfold execOp; simp only [h3]; go_simp) rfl) ?_
      refine FStepsW.cons (FStepW.plain rfl fun a w hS hE => OpTo.not true rfl (hE 4 (by kernel_rfl)) ⟨dOfW.of 5 rfl (Eq.refl (Value.bool false)), Touch.refl _ _⟩) ?_
      exact FStepsW.nil
    intro f w2 hS hF
    obtain ⟨h5, -⟩ := hF
    have e5 : f 5 = .bool false := h5
    clear h5
    replace B1 := Lib.hid (B1.out.touch hS notin_nil)
    replace B2 := Lib.hid (B2.out.touch hS notin_nil)
    replace HT := Lib.hid (HT.out.trans hS)
    clear hS
    simp only [setAll, List.setIfInBounds_toArray, List.set_cons_zero, List.set_cons_succ, e5]
    show wpList _ _ _ [] _ _
    refine wpList_nil ?_
    clear e5
    go_upto_region 3 with fail
    have hq : QP P l1 := by
      rcases p1.out with ⟨_, h⟩ | ⟨h, _⟩
      · exact h
      · cases h
    have HQ := Lib.hid hq
    clear hq
    refine wp_region_list (wpList_flowP 2 (lookW [(1, pu (isP (g1))), (8, pu (isV (.pointer (some ⟨g1, 1, none⟩)))), (9, pu (QuV (P)))]) [1] [8, 9] [9] (by kernel_rfl) (by kernel_rfl) (by kernel_rfl) ⟨rfl, trivial⟩ ?_ ?_)
    · refine FStepsW.cons (FStepW.plain rfl fun a w hS hE => OpTo.pureG (v := .pointer (some ⟨g1, 1, none⟩)) 8 rfl (by have h1 : a.eval (.tmp 1) = .pointer (some ⟨g1, 0, none⟩) := hE 1 (by kernel_rfl); unfold execOp; simp only [h1]; go_simp) rfl) ?_
      refine FStepsW.cons (FStepW.plain rfl fun a w hS hE => OpTo.rdQ1 9 (.tmp 8) rfl rfl (g1) (hE 8 (by kernel_rfl)) (B1.out.touch hS notin_nil) HQ.out (fun _ h => h)) ?_
      exact FStepsW.nil
    intro f w3 hS hF
    obtain ⟨h9, -⟩ := hF
    obtain ⟨l9, q9, e9⟩ := h9
    replace B1 := Lib.hid (B1.out.touch hS notin_nil)
    replace B2 := Lib.hid (B2.out.touch hS notin_nil)
    replace HT := Lib.hid (HT.out.trans hS)
    clear hS
    simp only [setAll, List.setIfInBounds_toArray, List.set_cons_zero, List.set_cons_succ, e9]
    show wpList _ _ _ [_] _ _
    obtain ⟨X2, Y2, Z2, T2, qr2, ql2⟩ := q9
    have QR2 := Lib.hid qr2
    have Q2 := Lib.hid ql2
    clear qr2 ql2
    refine wpList_store_row rfl 27 (.tmp 2) (.tmp 9) rfl g2 (cellsZ l9).toArray rfl rfl 27 (cellsZ zl).toArray B2.out (by rw [cellsZ_size, Q2.out.len]; exact infoQ) ((cellsZ_size _).trans ((zl_len).trans ((Q2.out.len).symm.trans (cellsZ_size _).symm))) (cellsZ_one l9) ?_
    refine wpList_nil ?_
    simp only [Act.put]
    have B1' := (B1.out.frow NE1_2.out (cellsZ l9).toArray)
    have B2' := (B2.out.setRow (cellsZ l9).toArray)
    have HT' := (HT.out.setRowE (.inr HB2.out) (cellsZ l9).toArray)
    obtain ⟨w4, hw4⟩ : ∃ w4, w4 = (w3.setRow g2 (cellsZ l9).toArray) := ⟨_, rfl⟩
    rw [← hw4] at HT' B1' B2'
    rw [← hw4]
    clear hw4 HT B1 B2
    have B1 := Lib.hid B1'
    clear B1'
    have B2 := Lib.hid B2'
    clear B2'
    have HT := Lib.hid HT'
    clear HT'
    clear e9
    go_wp2_with fail
    exact qu_ret Tryd.results22 Q2.out.len rfl 27 B2.out HT.out ⟨_, ⟨X2, Y2, Z2, T2, QR2.out, Q2.out⟩, rfl⟩
end Go.Proofs.YtbgpgbfiadhddaaDoor
/- Point.Add. -/
namespace Go.Proofs.YtbgpgbfiadhddaaDoor
open Go Go.RowKit
theorem cutN_d : cutN ⟨#[163, 120, 89, 19, 202, 77, 235, 117, 171, 216, 65, 65, 77, 10, 112, 0, 152, 232, 121, 119, 121, 64, 199, 140, 115, 254, 111, 43, 238, 108, 3, 82]⟩ = DN := by decide +kernel
theorem cut_d (w : World) : Calls Tryd.prog 27 #[.string ⟨#[163, 120, 89, 19, 202, 77, 235, 117, 171, 216, 65, 65, 77, 10, 112, 0, 152, 232, 121, 119, 121, 64, 199, 140, 115, 254, 111, 43, 238, 108, 3, 82]⟩] w (Gives w (EV DN)) := cutN_d ▸ cut_v _ w
set_option maxRecDepth 100000 in
set_option maxHeartbeats 4000000 in
theorem padd_v {P Q : Pt} {x y : Value} (hx : PtV P x) (hy : PtV Q y) (w : World) : Calls Tryd.prog 9 #[x, y] w (Gives w (PtV (padd P Q))) := by
  obtain ⟨b2, l2, h2, rfl⟩ := hx
  obtain ⟨b3, l3, h3, rfl⟩ := hy
  have P2 := Lib.hid h2
  have P3 := Lib.hid h3
  clear h2 h3
  unfold ptV
  go_enter Tryd.func9, Tryd.ntmps9
  go_upto_region 0 with fail
  refine wp_region_list ?_
  refine wpList_run rfl (exec_box rfl rfl) ?_
  refine wpList_run rfl (exec_box rfl rfl) ?_
  refine wpList_run rfl (exec_alloc_pt rfl) ?_
  refine wpList_nil ?_
  simp only [Act.put, List.setIfInBounds_toArray, List.set_cons_zero, List.set_cons_succ]
  obtain ⟨w1, g2, g3, g4, hW, eg2, eg3, eg4, b2, b3, b4, ht, hb2, hb3, hb4, ne2_3, ne2_4, ne3_4⟩ := start3 w 29 (ptA b2 l2) 29 (ptA b3 l3) 29 (ptA false zl)
  rw [← hW]
  rw [← eg4]
  rw [← eg3]
  rw [← eg2]
  have HT := Lib.hid ht
  have B2 := Lib.hid b2
  have HB2 := Lib.hid hb2
  have B3 := Lib.hid b3
  have HB3 := Lib.hid hb3
  have B4 := Lib.hid b4
  have HB4 := Lib.hid hb4
  have NE2_3 := Lib.hid ne2_3
  have NE2_4 := Lib.hid ne2_4
  have NE3_4 := Lib.hid ne3_4
  clear hW eg2 eg3 eg4 b2 b3 b4 ht hb2 hb3 hb4 ne2_3 ne2_4 ne3_4
  go_upto_region 1 with fail
  refine wp_region_flowX (lookW [(2, pu (isP (g2))), (3, pu (isP (g3))), (5, newS w1.heap.size 27 (cellsZ zl).toArray), (6, newS w1.heap.size 27 (cellsZ zl).toArray), (15, pu (PtV (P))), (16, pu (QuV (P))), (17, pu (PtV (Q))), (18, pu (QuV (Q)))]) (by kernel_rfl) 6 [] (fun d _ _ _ _ h => by cases d <;> exact h) (by intro l hl; cases hl) [2, 3] [15, 16, 17, 18, 5, 6] [16, 18, 5, 6] [(4, 5), (5, 6)] (by kernel_rfl) (by kernel_rfl) (by kernel_rfl) (by kernel_rfl) (by kernel_rfl) (by kernel_rfl) ⟨rfl, rfl, trivial⟩ ?_ ?_
  · refine FStepsX.cons rfl (FStepW.plain rfl fun a w hS hE => OpTo.rdP 15 (.tmp 2) rfl rfl (g2) (hE 2 (by kernel_rfl)) (B2.out.touch hS notin_nil) P2.out (fun _ h => h)) ?_
    refine FStepsX.cons rfl (FStepW.plain rfl fun a w hS hE => OpTo.call #[a.tmps.getD 15 undef] rfl Tryd.func22 (by kernel_rfl) (by kernel_rfl) (args1 ..) ((whole_v (hE 15 (by kernel_rfl)) w).mono fun _ _ h => Gives.toW 16 rfl (fun _ _ h => h) h)) ?_
    refine FStepsX.cons rfl (FStepW.plain rfl fun a w hS hE => OpTo.rdP 17 (.tmp 3) rfl rfl (g3) (hE 3 (by kernel_rfl)) (B3.out.touch hS notin_nil) P3.out (fun _ h => h)) ?_
    refine FStepsX.cons rfl (FStepW.plain rfl fun a w hS hE => OpTo.call #[a.tmps.getD 17 undef] rfl Tryd.func22 (by kernel_rfl) (by kernel_rfl) (args1 ..) ((whole_v (hE 17 (by kernel_rfl)) w).mono fun _ _ h => Gives.toW 18 rfl (fun _ _ h => h) h)) ?_
    refine FStepsX.new 5 27 (cellsZ zl).toArray rfl rfl (fun _ _ => exec_alloc_quad rfl) rfl ?_
    refine FStepsX.new 6 27 (cellsZ zl).toArray rfl rfl (fun _ _ => exec_alloc_quad rfl) rfl ?_
    exact FStepsX.nil
  intro f w2 hS hF hA
  obtain ⟨h16, h18, h5, h6, -⟩ := hF
  obtain ⟨l16, q16, e16⟩ := h16
  obtain ⟨l18, q18, e18⟩ := h18
  obtain ⟨g5, e5, z5, b5⟩ := h5
  obtain ⟨g6, e6, z6, b6⟩ := h6
  have ne5_6 : g5 ≠ g6 := fun e => hA (4, 5) (by simp) (5, 6) (by simp) (by decide) (by rw [e5, e6, e])
  have NE5_6 := Lib.hid ne5_6
  clear ne5_6
  have NE2_5 := Lib.hid (ne_new B2.out b5)
  have NE3_5 := Lib.hid (ne_new B3.out b5)
  have NE4_5 := Lib.hid (ne_new B4.out b5)
  have NE2_6 := Lib.hid (ne_new B2.out b6)
  have NE3_6 := Lib.hid (ne_new B3.out b6)
  have NE4_6 := Lib.hid (ne_new B4.out b6)
  clear hA
  replace B2 := Lib.hid (B2.out.touch hS notin_nil)
  replace B3 := Lib.hid (B3.out.touch hS notin_nil)
  replace B4 := Lib.hid (B4.out.touch hS notin_nil)
  have B5 := Lib.hid z5
  have HB5 := Lib.hid (Nat.le_trans HT.out.size b5)
  clear z5 b5
  have B6 := Lib.hid z6
  have HB6 := Lib.hid (Nat.le_trans HT.out.size b6)
  clear z6 b6
  replace HT := Lib.hid (HT.out.trans hS)
  clear hS
  simp only [setAll, List.setIfInBounds_toArray, List.set_cons_zero, List.set_cons_succ, e16, e18, e5, e6]
  show wpList _ _ _ [_, _] _ _
  obtain ⟨X5, Y5, Z5, T5, qr5, ql5⟩ := q16
  have QR5 := Lib.hid qr5
  have Q5 := Lib.hid ql5
  clear qr5 ql5
  refine wpList_store_row rfl 27 (.tmp 5) (.tmp 16) rfl g5 (cellsZ l16).toArray rfl rfl 27 (cellsZ zl).toArray B5.out (by rw [cellsZ_size, Q5.out.len]; exact infoQ) ((cellsZ_size _).trans ((zl_len).trans ((Q5.out.len).symm.trans (cellsZ_size _).symm))) (cellsZ_one l16) ?_
  obtain ⟨X6, Y6, Z6, T6, qr6, ql6⟩ := q18
  have QR6 := Lib.hid qr6
  have Q6 := Lib.hid ql6
  clear qr6 ql6
  refine wpList_store_row rfl 27 (.tmp 6) (.tmp 18) rfl g6 (cellsZ l18).toArray rfl rfl 27 (cellsZ zl).toArray (B6.out.frow (Ne.symm NE5_6.out) (cellsZ l16).toArray) (by rw [cellsZ_size, Q6.out.len]; exact infoQ) ((cellsZ_size _).trans ((zl_len).trans ((Q6.out.len).symm.trans (cellsZ_size _).symm))) (cellsZ_one l18) ?_
  refine wpList_nil ?_
  simp only [Act.put]
  have B2' := ((B2.out.frow NE2_5.out (cellsZ l16).toArray).frow NE2_6.out (cellsZ l18).toArray)
  have B3' := ((B3.out.frow NE3_5.out (cellsZ l16).toArray).frow NE3_6.out (cellsZ l18).toArray)
  have B4' := ((B4.out.frow NE4_5.out (cellsZ l16).toArray).frow NE4_6.out (cellsZ l18).toArray)
  have B5' := ((B5.out.setRow (cellsZ l16).toArray).frow NE5_6.out (cellsZ l18).toArray)
  have B6' := ((B6.out.frow (Ne.symm NE5_6.out) (cellsZ l16).toArray).setRow (cellsZ l18).toArray)
  have HT' := ((HT.out.setRowE (.inr HB5.out) (cellsZ l16).toArray).setRowE (.inr HB6.out) (cellsZ l18).toArray)
  obtain ⟨w3, hw3⟩ : ∃ w3, w3 = ((w2.setRow g5 (cellsZ l16).toArray).setRow g6 (cellsZ l18).toArray) := ⟨_, rfl⟩
  rw [← hw3] at HT' B2' B3' B4' B5' B6'
  rw [← hw3]
  clear hw3 HT B2 B3 B4 B5 B6
  have B2 := Lib.hid B2'
  clear B2'
  have B3 := Lib.hid B3'
  clear B3'
  have B4 := Lib.hid B4'
  clear B4'
  have B5 := Lib.hid B5'
  clear B5'
  have B6 := Lib.hid B6'
  clear B6'
  have HT := Lib.hid HT'
  clear HT'
  clear B2 HB2
  clear B3 HB3
  clear e16 e18 e5 e6
  go_upto_region 2 with fail
  refine wp_region_flowX (lookW [(5, pu (isP (g5))), (6, pu (isP (g6))), (7, newS w3.heap.size 25 (cellsZ (List.replicate 16 0)).toArray), (19, pu (isV (.pointer (some ⟨g5, 16, none⟩)))), (20, pu (EV (Y5))), (21, pu (isV (.pointer (some ⟨g5, 0, none⟩)))), (22, pu (EV (X5))), (23, pu (EV (subF (Y5) (X5)))), (24, pu (isV (.pointer (some ⟨g6, 16, none⟩)))), (25, pu (EV (Y6))), (26, pu (isV (.pointer (some ⟨g6, 0, none⟩)))), (27, pu (EV (X6))), (28, pu (EV (subF (Y6) (X6)))), (29, pu (EV (mulF (subF (Y5) (X5)) (subF (Y6) (X6)))))]) (by kernel_rfl) 12 [] (fun d _ _ _ _ h => by cases d <;> exact h) (by intro l hl; cases hl) [5, 6] [19, 20, 21, 22, 23, 24, 25, 26, 27, 28, 29, 7] [29, 7] [(11, 7)] (by kernel_rfl) (by kernel_rfl) (by kernel_rfl) (by kernel_rfl) (by kernel_rfl) (by kernel_rfl) ⟨rfl, rfl, trivial⟩ ?_ ?_
  · refine FStepsX.cons rfl (FStepW.plain rfl fun a w hS hE => OpTo.pureG (v := .pointer (some ⟨g5, 16, none⟩)) 19 rfl (by have h5 : a.eval (.tmp 5) = .pointer (some ⟨g5, 0, none⟩) := hE 5 (by kernel_rfl); unfold execOp; simp only [h5]; go_simp) rfl) ?_
    refine FStepsX.cons rfl (FStepW.plain rfl fun a w hS hE => OpTo.rdE 20 (.tmp 19) rfl rfl (g5) 16 (hE 19 (by kernel_rfl)) ((fun W hW => RdE.q1 (B5.out.touch hW notin_nil) Q5.out) w hS) (fun _ h => h)) ?_
    refine FStepsX.cons rfl (FStepW.plain rfl fun a w hS hE => OpTo.pureG (v := .pointer (some ⟨g5, 0, none⟩)) 21 rfl (by have h5 : a.eval (.tmp 5) = .pointer (some ⟨g5, 0, none⟩) := hE 5 (by kernel_rfl); unfold execOp; simp only [h5]; go_simp) rfl) ?_
    refine FStepsX.cons rfl (FStepW.plain rfl fun a w hS hE => OpTo.rdE 22 (.tmp 21) rfl rfl (g5) 0 (hE 21 (by kernel_rfl)) ((fun W hW => RdE.q0 (B5.out.touch hW notin_nil) Q5.out) w hS) (fun _ h => h)) ?_
    refine FStepsX.cons rfl (FStepW.plain rfl fun a w hS hE => OpTo.call #[a.tmps.getD 20 undef, a.tmps.getD 22 undef] rfl Tryd.func25 (by kernel_rfl) (by kernel_rfl) (args2 ..) ((sub_v (hE 20 (by kernel_rfl)) (hE 22 (by kernel_rfl)) w).mono fun _ _ h => Gives.toW 23 rfl (fun _ _ h => h) h)) ?_
    refine FStepsX.cons rfl (FStepW.plain rfl fun a w hS hE => OpTo.pureG (v := .pointer (some ⟨g6, 16, none⟩)) 24 rfl (by have h6 : a.eval (.tmp 6) = .pointer (some ⟨g6, 0, none⟩) := hE 6 (by kernel_rfl); unfold execOp; simp only [h6]; go_simp) rfl) ?_
    refine FStepsX.cons rfl (FStepW.plain rfl fun a w hS hE => OpTo.rdE 25 (.tmp 24) rfl rfl (g6) 16 (hE 24 (by kernel_rfl)) ((fun W hW => RdE.q1 (B6.out.touch hW notin_nil) Q6.out) w hS) (fun _ h => h)) ?_
    refine FStepsX.cons rfl (FStepW.plain rfl fun a w hS hE => OpTo.pureG (v := .pointer (some ⟨g6, 0, none⟩)) 26 rfl (by have h6 : a.eval (.tmp 6) = .pointer (some ⟨g6, 0, none⟩) := hE 6 (by kernel_rfl); unfold execOp; simp only [h6]; go_simp) rfl) ?_
    refine FStepsX.cons rfl (FStepW.plain rfl fun a w hS hE => OpTo.rdE 27 (.tmp 26) rfl rfl (g6) 0 (hE 26 (by kernel_rfl)) ((fun W hW => RdE.q0 (B6.out.touch hW notin_nil) Q6.out) w hS) (fun _ h => h)) ?_
    refine FStepsX.cons rfl (FStepW.plain rfl fun a w hS hE => OpTo.call #[a.tmps.getD 25 undef, a.tmps.getD 27 undef] rfl Tryd.func25 (by kernel_rfl) (by kernel_rfl) (args2 ..) ((sub_v (hE 25 (by kernel_rfl)) (hE 27 (by kernel_rfl)) w).mono fun _ _ h => Gives.toW 28 rfl (fun _ _ h => h) h)) ?_
    refine FStepsX.cons rfl (FStepW.plain rfl fun a w hS hE => OpTo.call #[a.tmps.getD 23 undef, a.tmps.getD 28 undef] rfl Tryd.func23 (by kernel_rfl) (by kernel_rfl) (args2 ..) ((mul_v (hE 23 (by kernel_rfl)) (hE 28 (by kernel_rfl)) w).mono fun _ _ h => Gives.toW 29 rfl (fun _ _ h => h) h)) ?_
    refine FStepsX.new 7 25 (cellsZ (List.replicate 16 0)).toArray rfl rfl (fun _ _ => exec_alloc_el rfl) rfl ?_
    exact FStepsX.nil
  intro f w4 hS hF hA
  obtain ⟨h29, h7, -⟩ := hF
  obtain ⟨l29, e29, r29⟩ := EV.list (n := mulF (subF (Y5) (X5)) (subF (Y6) (X6))) (v := f 29) h29
  have R29 := Lib.hid r29
  clear r29 h29
  obtain ⟨g7, e7, z7, b7⟩ := h7
  have NE4_7 := Lib.hid (ne_new B4.out b7)
  have NE5_7 := Lib.hid (ne_new B5.out b7)
  have NE6_7 := Lib.hid (ne_new B6.out b7)
  clear hA
  replace B4 := Lib.hid (B4.out.touch hS notin_nil)
  replace B5 := Lib.hid (B5.out.touch hS notin_nil)
  replace B6 := Lib.hid (B6.out.touch hS notin_nil)
  have B7 := Lib.hid z7
  have HB7 := Lib.hid (Nat.le_trans HT.out.size b7)
  clear z7 b7
  replace HT := Lib.hid (HT.out.trans hS)
  clear hS
  simp only [setAll, List.setIfInBounds_toArray, List.set_cons_zero, List.set_cons_succ, e29, e7]
  show wpList _ _ _ [_] _ _
  refine wpList_store_row rfl 25 (.tmp 7) (.tmp 29) rfl g7 (cellsZ l29).toArray rfl rfl 25 (cellsZ (List.replicate 16 0)).toArray B7.out (by rw [cellsZ_size, R29.out.1.len]; exact infoE) ((cellsZ_size _).trans (((List.length_replicate ..)).trans ((R29.out.1.len).symm.trans (cellsZ_size _).symm))) (cellsZ_one l29) ?_
  refine wpList_nil ?_
  simp only [Act.put]
  have B4' := (B4.out.frow NE4_7.out (cellsZ l29).toArray)
  have B5' := (B5.out.frow NE5_7.out (cellsZ l29).toArray)
  have B6' := (B6.out.frow NE6_7.out (cellsZ l29).toArray)
  have B7' := (B7.out.setRow (cellsZ l29).toArray)
  have HT' := (HT.out.setRowE (.inr HB7.out) (cellsZ l29).toArray)
  obtain ⟨w5, hw5⟩ : ∃ w5, w5 = (w4.setRow g7 (cellsZ l29).toArray) := ⟨_, rfl⟩
  rw [← hw5] at HT' B4' B5' B6' B7'
  rw [← hw5]
  clear hw5 HT B4 B5 B6 B7
  have B4 := Lib.hid B4'
  clear B4'
  have B5 := Lib.hid B5'
  clear B5'
  have B6 := Lib.hid B6'
  clear B6'
  have B7 := Lib.hid B7'
  clear B7'
  have HT := Lib.hid HT'
  clear HT'
  clear e29 e7
  go_upto_region 3 with fail
  refine wp_region_flowX (lookW [(5, pu (isP (g5))), (6, pu (isP (g6))), (8, newS w5.heap.size 25 (cellsZ (List.replicate 16 0)).toArray), (30, pu (isV (.pointer (some ⟨g5, 16, none⟩)))), (31, pu (EV (Y5))), (32, pu (isV (.pointer (some ⟨g5, 0, none⟩)))), (33, pu (EV (X5))), (34, pu (EV (addF (Y5) (X5)))), (35, pu (isV (.pointer (some ⟨g6, 16, none⟩)))), (36, pu (EV (Y6))), (37, pu (isV (.pointer (some ⟨g6, 0, none⟩)))), (38, pu (EV (X6))), (39, pu (EV (addF (Y6) (X6)))), (40, pu (EV (mulF (addF (Y5) (X5)) (addF (Y6) (X6)))))]) (by kernel_rfl) 12 [] (fun d _ _ _ _ h => by cases d <;> exact h) (by intro l hl; cases hl) [5, 6] [30, 31, 32, 33, 34, 35, 36, 37, 38, 39, 40, 8] [40, 8] [(11, 8)] (by kernel_rfl) (by kernel_rfl) (by kernel_rfl) (by kernel_rfl) (by kernel_rfl) (by kernel_rfl) ⟨rfl, rfl, trivial⟩ ?_ ?_
  · refine FStepsX.cons rfl (FStepW.plain rfl fun a w hS hE => OpTo.pureG (v := .pointer (some ⟨g5, 16, none⟩)) 30 rfl (by have h5 : a.eval (.tmp 5) = .pointer (some ⟨g5, 0, none⟩) := hE 5 (by kernel_rfl); unfold execOp; simp only [h5]; go_simp) rfl) ?_
    refine FStepsX.cons rfl (FStepW.plain rfl fun a w hS hE => OpTo.rdE 31 (.tmp 30) rfl rfl (g5) 16 (hE 30 (by kernel_rfl)) ((fun W hW => RdE.q1 (B5.out.touch hW notin_nil) Q5.out) w hS) (fun _ h => h)) ?_
    refine FStepsX.cons rfl (FStepW.plain rfl fun a w hS hE => OpTo.pureG (v := .pointer (some ⟨g5, 0, none⟩)) 32 rfl (by have h5 : a.eval (.tmp 5) = .pointer (some ⟨g5, 0, none⟩) := hE 5 (by kernel_rfl); unfold execOp; simp only [h5]; go_simp) rfl) ?_
    refine FStepsX.cons rfl (FStepW.plain rfl fun a w hS hE => OpTo.rdE 33 (.tmp 32) rfl rfl (g5) 0 (hE 32 (by kernel_rfl)) ((fun W hW => RdE.q0 (B5.out.touch hW notin_nil) Q5.out) w hS) (fun _ h => h)) ?_
    refine FStepsX.cons rfl (FStepW.plain rfl fun a w hS hE => OpTo.call #[a.tmps.getD 31 undef, a.tmps.getD 33 undef] rfl Tryd.func26 (by kernel_rfl) (by kernel_rfl) (args2 ..) ((add_v (hE 31 (by kernel_rfl)) (hE 33 (by kernel_rfl)) w).mono fun _ _ h => Gives.toW 34 rfl (fun _ _ h => h) h)) ?_
    refine FStepsX.cons rfl (FStepW.plain rfl fun a w hS hE => OpTo.pureG (v := .pointer (some ⟨g6, 16, none⟩)) 35 rfl (by have h6 : a.eval (.tmp 6) = .pointer (some ⟨g6, 0, none⟩) := hE 6 (by kernel_rfl); unfold execOp; simp only [h6]; go_simp) rfl) ?_
    refine FStepsX.cons rfl (FStepW.plain rfl fun a w hS hE => OpTo.rdE 36 (.tmp 35) rfl rfl (g6) 16 (hE 35 (by kernel_rfl)) ((fun W hW => RdE.q1 (B6.out.touch hW notin_nil) Q6.out) w hS) (fun _ h => h)) ?_
    refine FStepsX.cons rfl (FStepW.plain rfl fun a w hS hE => OpTo.pureG (v := .pointer (some ⟨g6, 0, none⟩)) 37 rfl (by have h6 : a.eval (.tmp 6) = .pointer (some ⟨g6, 0, none⟩) := hE 6 (by kernel_rfl); unfold execOp; simp only [h6]; go_simp) rfl) ?_
    refine FStepsX.cons rfl (FStepW.plain rfl fun a w hS hE => OpTo.rdE 38 (.tmp 37) rfl rfl (g6) 0 (hE 37 (by kernel_rfl)) ((fun W hW => RdE.q0 (B6.out.touch hW notin_nil) Q6.out) w hS) (fun _ h => h)) ?_
    refine FStepsX.cons rfl (FStepW.plain rfl fun a w hS hE => OpTo.call #[a.tmps.getD 36 undef, a.tmps.getD 38 undef] rfl Tryd.func26 (by kernel_rfl) (by kernel_rfl) (args2 ..) ((add_v (hE 36 (by kernel_rfl)) (hE 38 (by kernel_rfl)) w).mono fun _ _ h => Gives.toW 39 rfl (fun _ _ h => h) h)) ?_
    refine FStepsX.cons rfl (FStepW.plain rfl fun a w hS hE => OpTo.call #[a.tmps.getD 34 undef, a.tmps.getD 39 undef] rfl Tryd.func23 (by kernel_rfl) (by kernel_rfl) (args2 ..) ((mul_v (hE 34 (by kernel_rfl)) (hE 39 (by kernel_rfl)) w).mono fun _ _ h => Gives.toW 40 rfl (fun _ _ h => h) h)) ?_
    refine FStepsX.new 8 25 (cellsZ (List.replicate 16 0)).toArray rfl rfl (fun _ _ => exec_alloc_el rfl) rfl ?_
    exact FStepsX.nil
  intro f w6 hS hF hA
  obtain ⟨h40, h8, -⟩ := hF
  obtain ⟨l40, e40, r40⟩ := EV.list (n := mulF (addF (Y5) (X5)) (addF (Y6) (X6))) (v := f 40) h40
  have R40 := Lib.hid r40
  clear r40 h40
  obtain ⟨g8, e8, z8, b8⟩ := h8
  have NE4_8 := Lib.hid (ne_new B4.out b8)
  have NE5_8 := Lib.hid (ne_new B5.out b8)
  have NE6_8 := Lib.hid (ne_new B6.out b8)
  have NE7_8 := Lib.hid (ne_new B7.out b8)
  clear hA
  replace B4 := Lib.hid (B4.out.touch hS notin_nil)
  replace B5 := Lib.hid (B5.out.touch hS notin_nil)
  replace B6 := Lib.hid (B6.out.touch hS notin_nil)
  replace B7 := Lib.hid (B7.out.touch hS notin_nil)
  have B8 := Lib.hid z8
  have HB8 := Lib.hid (Nat.le_trans HT.out.size b8)
  clear z8 b8
  replace HT := Lib.hid (HT.out.trans hS)
  clear hS
  simp only [setAll, List.setIfInBounds_toArray, List.set_cons_zero, List.set_cons_succ, e40, e8]
  show wpList _ _ _ [_] _ _
  refine wpList_store_row rfl 25 (.tmp 8) (.tmp 40) rfl g8 (cellsZ l40).toArray rfl rfl 25 (cellsZ (List.replicate 16 0)).toArray B8.out (by rw [cellsZ_size, R40.out.1.len]; exact infoE) ((cellsZ_size _).trans (((List.length_replicate ..)).trans ((R40.out.1.len).symm.trans (cellsZ_size _).symm))) (cellsZ_one l40) ?_
  refine wpList_nil ?_
  simp only [Act.put]
  have B4' := (B4.out.frow NE4_8.out (cellsZ l40).toArray)
  have B5' := (B5.out.frow NE5_8.out (cellsZ l40).toArray)
  have B6' := (B6.out.frow NE6_8.out (cellsZ l40).toArray)
  have B7' := (B7.out.frow NE7_8.out (cellsZ l40).toArray)
  have B8' := (B8.out.setRow (cellsZ l40).toArray)
  have HT' := (HT.out.setRowE (.inr HB8.out) (cellsZ l40).toArray)
  obtain ⟨w7, hw7⟩ : ∃ w7, w7 = (w6.setRow g8 (cellsZ l40).toArray) := ⟨_, rfl⟩
  rw [← hw7] at HT' B4' B5' B6' B7' B8'
  rw [← hw7]
  clear hw7 HT B4 B5 B6 B7 B8
  have B4 := Lib.hid B4'
  clear B4'
  have B5 := Lib.hid B5'
  clear B5'
  have B6 := Lib.hid B6'
  clear B6'
  have B7 := Lib.hid B7'
  clear B7'
  have B8 := Lib.hid B8'
  clear B8'
  have HT := Lib.hid HT'
  clear HT'
  clear e40 e8
  go_upto_region 4 with fail
  refine wp_region_list (wpList_flowP 8 (lookW [(5, pu (isP (g5))), (6, pu (isP (g6))), (9, newS w7.heap.size 25 (cellsZ (List.replicate 16 0)).toArray), (41, pu (isV (.pointer (some ⟨g5, 48, none⟩)))), (42, pu (EV (T5))), (43, pu (isV (.pointer (some ⟨g6, 48, none⟩)))), (44, pu (EV (T6))), (45, pu (EV (mulF (T5) (T6)))), (46, pu (EV (DN))), (47, pu (EV (mulF (mulF (T5) (T6)) (DN))))]) [5, 6] [41, 42, 43, 44, 45, 46, 47, 9] [47, 9] (by kernel_rfl) (by kernel_rfl) (by kernel_rfl) ⟨rfl, rfl, trivial⟩ ?_ ?_)
  · refine FStepsW.cons (FStepW.plain rfl fun a w hS hE => OpTo.pureG (v := .pointer (some ⟨g5, 48, none⟩)) 41 rfl (by have h5 : a.eval (.tmp 5) = .pointer (some ⟨g5, 0, none⟩) := hE 5 (by kernel_rfl); unfold execOp; simp only [h5]; go_simp) rfl) ?_
    refine FStepsW.cons (FStepW.plain rfl fun a w hS hE => OpTo.rdE 42 (.tmp 41) rfl rfl (g5) 48 (hE 41 (by kernel_rfl)) ((fun W hW => RdE.q3 (B5.out.touch hW notin_nil) Q5.out) w hS) (fun _ h => h)) ?_
    refine FStepsW.cons (FStepW.plain rfl fun a w hS hE => OpTo.pureG (v := .pointer (some ⟨g6, 48, none⟩)) 43 rfl (by have h6 : a.eval (.tmp 6) = .pointer (some ⟨g6, 0, none⟩) := hE 6 (by kernel_rfl); unfold execOp; simp only [h6]; go_simp) rfl) ?_
    refine FStepsW.cons (FStepW.plain rfl fun a w hS hE => OpTo.rdE 44 (.tmp 43) rfl rfl (g6) 48 (hE 43 (by kernel_rfl)) ((fun W hW => RdE.q3 (B6.out.touch hW notin_nil) Q6.out) w hS) (fun _ h => h)) ?_
    refine FStepsW.cons (FStepW.plain rfl fun a w hS hE => OpTo.call #[a.tmps.getD 42 undef, a.tmps.getD 44 undef] rfl Tryd.func23 (by kernel_rfl) (by kernel_rfl) (args2 ..) ((mul_v (hE 42 (by kernel_rfl)) (hE 44 (by kernel_rfl)) w).mono fun _ _ h => Gives.toW 45 rfl (fun _ _ h => h) h)) ?_
    refine FStepsW.cons (FStepW.plain rfl fun a w hS hE => OpTo.call #[.string ⟨#[163, 120, 89, 19, 202, 77, 235, 117, 171, 216, 65, 65, 77, 10, 112, 0, 152, 232, 121, 119, 121, 64, 199, 140, 115, 254, 111, 43, 238, 108, 3, 82]⟩] rfl Tryd.func27 (by kernel_rfl) (by kernel_rfl) (args1 ..) ((cut_d w).mono fun _ _ h => Gives.toW 46 rfl (fun _ _ h => h) h)) ?_
    refine FStepsW.cons (FStepW.plain rfl fun a w hS hE => OpTo.call #[a.tmps.getD 45 undef, a.tmps.getD 46 undef] rfl Tryd.func23 (by kernel_rfl) (by kernel_rfl) (args2 ..) ((mul_v (hE 45 (by kernel_rfl)) (hE 46 (by kernel_rfl)) w).mono fun _ _ h => Gives.toW 47 rfl (fun _ _ h => h) h)) ?_
    refine FStepsW.cons (FStepW.plain rfl fun a w hS hE => OpTo.allocG 9 25 (cellsZ (List.replicate 16 0)).toArray rfl hS (exec_alloc_el rfl) rfl) ?_
    exact FStepsW.nil
  intro f w8 hS hF
  obtain ⟨h47, h9, -⟩ := hF
  obtain ⟨l47, e47, r47⟩ := EV.list (n := mulF (mulF (T5) (T6)) (DN)) (v := f 47) h47
  have R47 := Lib.hid r47
  clear r47 h47
  obtain ⟨g9, e9, z9, b9⟩ := h9
  have NE4_9 := Lib.hid (ne_new B4.out b9)
  have NE5_9 := Lib.hid (ne_new B5.out b9)
  have NE6_9 := Lib.hid (ne_new B6.out b9)
  have NE7_9 := Lib.hid (ne_new B7.out b9)
  have NE8_9 := Lib.hid (ne_new B8.out b9)
  replace B4 := Lib.hid (B4.out.touch hS notin_nil)
  replace B5 := Lib.hid (B5.out.touch hS notin_nil)
  replace B6 := Lib.hid (B6.out.touch hS notin_nil)
  replace B7 := Lib.hid (B7.out.touch hS notin_nil)
  replace B8 := Lib.hid (B8.out.touch hS notin_nil)
  have B9 := Lib.hid z9
  have HB9 := Lib.hid (Nat.le_trans HT.out.size b9)
  clear z9 b9
  replace HT := Lib.hid (HT.out.trans hS)
  clear hS
  simp only [setAll, List.setIfInBounds_toArray, List.set_cons_zero, List.set_cons_succ, e47, e9]
  show wpList _ _ _ [_] _ _
  refine wpList_store_row rfl 25 (.tmp 9) (.tmp 47) rfl g9 (cellsZ l47).toArray rfl rfl 25 (cellsZ (List.replicate 16 0)).toArray B9.out (by rw [cellsZ_size, R47.out.1.len]; exact infoE) ((cellsZ_size _).trans (((List.length_replicate ..)).trans ((R47.out.1.len).symm.trans (cellsZ_size _).symm))) (cellsZ_one l47) ?_
  refine wpList_nil ?_
  simp only [Act.put]
  have B4' := (B4.out.frow NE4_9.out (cellsZ l47).toArray)
  have B5' := (B5.out.frow NE5_9.out (cellsZ l47).toArray)
  have B6' := (B6.out.frow NE6_9.out (cellsZ l47).toArray)
  have B7' := (B7.out.frow NE7_9.out (cellsZ l47).toArray)
  have B8' := (B8.out.frow NE8_9.out (cellsZ l47).toArray)
  have B9' := (B9.out.setRow (cellsZ l47).toArray)
  have HT' := (HT.out.setRowE (.inr HB9.out) (cellsZ l47).toArray)
  obtain ⟨w9, hw9⟩ : ∃ w9, w9 = (w8.setRow g9 (cellsZ l47).toArray) := ⟨_, rfl⟩
  rw [← hw9] at HT' B4' B5' B6' B7' B8' B9'
  rw [← hw9]
  clear hw9 HT B4 B5 B6 B7 B8 B9
  have B4 := Lib.hid B4'
  clear B4'
  have B5 := Lib.hid B5'
  clear B5'
  have B6 := Lib.hid B6'
  clear B6'
  have B7 := Lib.hid B7'
  clear B7'
  have B8 := Lib.hid B8'
  clear B8'
  have B9 := Lib.hid B9'
  clear B9'
  have HT := Lib.hid HT'
  clear HT'
  clear e47 e9
  go_upto_region 5 with fail
  refine wp_region_list (wpList_flowP 3 (lookW [(9, pu (isP (g9))), (48, pu (EV (mulF (mulF (T5) (T6)) (DN)))), (49, pu (EV (mulF (mulF (T5) (T6)) (DN)))), (50, pu (EV (addF (mulF (mulF (T5) (T6)) (DN)) (mulF (mulF (T5) (T6)) (DN)))))]) [9] [48, 49, 50] [50] (by kernel_rfl) (by kernel_rfl) (by kernel_rfl) ⟨rfl, trivial⟩ ?_ ?_)
  · refine FStepsW.cons (FStepW.plain rfl fun a w hS hE => OpTo.rdE 48 (.tmp 9) rfl rfl (g9) 0 (hE 9 (by kernel_rfl)) ((fun W hW => RdE.el (B9.out.touch hW notin_nil) R47.out.1 R47.out.2) w hS) (fun _ h => h)) ?_
    refine FStepsW.cons (FStepW.plain rfl fun a w hS hE => OpTo.rdE 49 (.tmp 9) rfl rfl (g9) 0 (hE 9 (by kernel_rfl)) ((fun W hW => RdE.el (B9.out.touch hW notin_nil) R47.out.1 R47.out.2) w hS) (fun _ h => h)) ?_
    refine FStepsW.cons (FStepW.plain rfl fun a w hS hE => OpTo.call #[a.tmps.getD 48 undef, a.tmps.getD 49 undef] rfl Tryd.func26 (by kernel_rfl) (by kernel_rfl) (args2 ..) ((add_v (hE 48 (by kernel_rfl)) (hE 49 (by kernel_rfl)) w).mono fun _ _ h => Gives.toW 50 rfl (fun _ _ h => h) h)) ?_
    exact FStepsW.nil
  intro f w10 hS hF
  obtain ⟨h50, -⟩ := hF
  obtain ⟨l50, e50, r50⟩ := EV.list (n := addF (mulF (mulF (T5) (T6)) (DN)) (mulF (mulF (T5) (T6)) (DN))) (v := f 50) h50
  have R50 := Lib.hid r50
  clear r50 h50
  replace B4 := Lib.hid (B4.out.touch hS notin_nil)
  replace B5 := Lib.hid (B5.out.touch hS notin_nil)
  replace B6 := Lib.hid (B6.out.touch hS notin_nil)
  replace B7 := Lib.hid (B7.out.touch hS notin_nil)
  replace B8 := Lib.hid (B8.out.touch hS notin_nil)
  replace B9 := Lib.hid (B9.out.touch hS notin_nil)
  replace HT := Lib.hid (HT.out.trans hS)
  clear hS
  simp only [setAll, List.setIfInBounds_toArray, List.set_cons_zero, List.set_cons_succ, e50]
  show wpList _ _ _ [_] _ _
  refine wpList_store_row rfl 25 (.tmp 9) (.tmp 50) rfl g9 (cellsZ l50).toArray rfl rfl 25 (cellsZ l47).toArray B9.out (by rw [cellsZ_size, R50.out.1.len]; exact infoE) ((cellsZ_size _).trans ((R47.out.1.len).trans ((R50.out.1.len).symm.trans (cellsZ_size _).symm))) (cellsZ_one l50) ?_
  refine wpList_nil ?_
  simp only [Act.put]
  have B4' := (B4.out.frow NE4_9.out (cellsZ l50).toArray)
  have B5' := (B5.out.frow NE5_9.out (cellsZ l50).toArray)
  have B6' := (B6.out.frow NE6_9.out (cellsZ l50).toArray)
  have B7' := (B7.out.frow NE7_9.out (cellsZ l50).toArray)
  have B8' := (B8.out.frow NE8_9.out (cellsZ l50).toArray)
  have B9' := (B9.out.setRow (cellsZ l50).toArray)
  have HT' := (HT.out.setRowE (.inr HB9.out) (cellsZ l50).toArray)
  obtain ⟨w11, hw11⟩ : ∃ w11, w11 = (w10.setRow g9 (cellsZ l50).toArray) := ⟨_, rfl⟩
  rw [← hw11] at HT' B4' B5' B6' B7' B8' B9'
  rw [← hw11]
  clear hw11 HT B4 B5 B6 B7 B8 B9
  have B4 := Lib.hid B4'
  clear B4'
  have B5 := Lib.hid B5'
  clear B5'
  have B6 := Lib.hid B6'
  clear B6'
  have B7 := Lib.hid B7'
  clear B7'
  have B8 := Lib.hid B8'
  clear B8'
  have B9 := Lib.hid B9'
  clear B9'
  have HT := Lib.hid HT'
  clear HT'
  clear e50
  go_upto_region 6 with fail
  refine wp_region_list (wpList_flowP 6 (lookW [(5, pu (isP (g5))), (6, pu (isP (g6))), (10, newS w11.heap.size 25 (cellsZ (List.replicate 16 0)).toArray), (51, pu (isV (.pointer (some ⟨g5, 32, none⟩)))), (52, pu (EV (Z5))), (53, pu (isV (.pointer (some ⟨g6, 32, none⟩)))), (54, pu (EV (Z6))), (55, pu (EV (mulF (Z5) (Z6))))]) [5, 6] [51, 52, 53, 54, 55, 10] [55, 10] (by kernel_rfl) (by kernel_rfl) (by kernel_rfl) ⟨rfl, rfl, trivial⟩ ?_ ?_)
  · refine FStepsW.cons (FStepW.plain rfl fun a w hS hE => OpTo.pureG (v := .pointer (some ⟨g5, 32, none⟩)) 51 rfl (by have h5 : a.eval (.tmp 5) = .pointer (some ⟨g5, 0, none⟩) := hE 5 (by kernel_rfl); unfold execOp; simp only [h5]; go_simp) rfl) ?_
    refine FStepsW.cons (FStepW.plain rfl fun a w hS hE => OpTo.rdE 52 (.tmp 51) rfl rfl (g5) 32 (hE 51 (by kernel_rfl)) ((fun W hW => RdE.q2 (B5.out.touch hW notin_nil) Q5.out) w hS) (fun _ h => h)) ?_
    refine FStepsW.cons (FStepW.plain rfl fun a w hS hE => OpTo.pureG (v := .pointer (some ⟨g6, 32, none⟩)) 53 rfl (by have h6 : a.eval (.tmp 6) = .pointer (some ⟨g6, 0, none⟩) := hE 6 (by kernel_rfl); unfold execOp; simp only [h6]; go_simp) rfl) ?_
    refine FStepsW.cons (FStepW.plain rfl fun a w hS hE => OpTo.rdE 54 (.tmp 53) rfl rfl (g6) 32 (hE 53 (by kernel_rfl)) ((fun W hW => RdE.q2 (B6.out.touch hW notin_nil) Q6.out) w hS) (fun _ h => h)) ?_
    refine FStepsW.cons (FStepW.plain rfl fun a w hS hE => OpTo.call #[a.tmps.getD 52 undef, a.tmps.getD 54 undef] rfl Tryd.func23 (by kernel_rfl) (by kernel_rfl) (args2 ..) ((mul_v (hE 52 (by kernel_rfl)) (hE 54 (by kernel_rfl)) w).mono fun _ _ h => Gives.toW 55 rfl (fun _ _ h => h) h)) ?_
    refine FStepsW.cons (FStepW.plain rfl fun a w hS hE => OpTo.allocG 10 25 (cellsZ (List.replicate 16 0)).toArray rfl hS (exec_alloc_el rfl) rfl) ?_
    exact FStepsW.nil
  intro f w12 hS hF
  obtain ⟨h55, h10, -⟩ := hF
  obtain ⟨l55, e55, r55⟩ := EV.list (n := mulF (Z5) (Z6)) (v := f 55) h55
  have R55 := Lib.hid r55
  clear r55 h55
  obtain ⟨g10, e10, z10, b10⟩ := h10
  have NE4_10 := Lib.hid (ne_new B4.out b10)
  have NE5_10 := Lib.hid (ne_new B5.out b10)
  have NE6_10 := Lib.hid (ne_new B6.out b10)
  have NE7_10 := Lib.hid (ne_new B7.out b10)
  have NE8_10 := Lib.hid (ne_new B8.out b10)
  have NE9_10 := Lib.hid (ne_new B9.out b10)
  replace B4 := Lib.hid (B4.out.touch hS notin_nil)
  replace B5 := Lib.hid (B5.out.touch hS notin_nil)
  replace B6 := Lib.hid (B6.out.touch hS notin_nil)
  replace B7 := Lib.hid (B7.out.touch hS notin_nil)
  replace B8 := Lib.hid (B8.out.touch hS notin_nil)
  replace B9 := Lib.hid (B9.out.touch hS notin_nil)
  have B10 := Lib.hid z10
  have HB10 := Lib.hid (Nat.le_trans HT.out.size b10)
  clear z10 b10
  replace HT := Lib.hid (HT.out.trans hS)
  clear hS
  simp only [setAll, List.setIfInBounds_toArray, List.set_cons_zero, List.set_cons_succ, e55, e10]
  show wpList _ _ _ [_] _ _
  refine wpList_store_row rfl 25 (.tmp 10) (.tmp 55) rfl g10 (cellsZ l55).toArray rfl rfl 25 (cellsZ (List.replicate 16 0)).toArray B10.out (by rw [cellsZ_size, R55.out.1.len]; exact infoE) ((cellsZ_size _).trans (((List.length_replicate ..)).trans ((R55.out.1.len).symm.trans (cellsZ_size _).symm))) (cellsZ_one l55) ?_
  refine wpList_nil ?_
  simp only [Act.put]
  have B4' := (B4.out.frow NE4_10.out (cellsZ l55).toArray)
  have B5' := (B5.out.frow NE5_10.out (cellsZ l55).toArray)
  have B6' := (B6.out.frow NE6_10.out (cellsZ l55).toArray)
  have B7' := (B7.out.frow NE7_10.out (cellsZ l55).toArray)
  have B8' := (B8.out.frow NE8_10.out (cellsZ l55).toArray)
  have B9' := (B9.out.frow NE9_10.out (cellsZ l55).toArray)
  have B10' := (B10.out.setRow (cellsZ l55).toArray)
  have HT' := (HT.out.setRowE (.inr HB10.out) (cellsZ l55).toArray)
  obtain ⟨w13, hw13⟩ : ∃ w13, w13 = (w12.setRow g10 (cellsZ l55).toArray) := ⟨_, rfl⟩
  rw [← hw13] at HT' B4' B5' B6' B7' B8' B9' B10'
  rw [← hw13]
  clear hw13 HT B4 B5 B6 B7 B8 B9 B10
  have B4 := Lib.hid B4'
  clear B4'
  have B5 := Lib.hid B5'
  clear B5'
  have B6 := Lib.hid B6'
  clear B6'
  have B7 := Lib.hid B7'
  clear B7'
  have B8 := Lib.hid B8'
  clear B8'
  have B9 := Lib.hid B9'
  clear B9'
  have B10 := Lib.hid B10'
  clear B10'
  have HT := Lib.hid HT'
  clear HT'
  clear e55 e10
  go_upto_region 7 with fail
  refine wp_region_list (wpList_flowP 3 (lookW [(10, pu (isP (g10))), (56, pu (EV (mulF (Z5) (Z6)))), (57, pu (EV (mulF (Z5) (Z6)))), (58, pu (EV (addF (mulF (Z5) (Z6)) (mulF (Z5) (Z6)))))]) [10] [56, 57, 58] [58] (by kernel_rfl) (by kernel_rfl) (by kernel_rfl) ⟨rfl, trivial⟩ ?_ ?_)
  · refine FStepsW.cons (FStepW.plain rfl fun a w hS hE => OpTo.rdE 56 (.tmp 10) rfl rfl (g10) 0 (hE 10 (by kernel_rfl)) ((fun W hW => RdE.el (B10.out.touch hW notin_nil) R55.out.1 R55.out.2) w hS) (fun _ h => h)) ?_
    refine FStepsW.cons (FStepW.plain rfl fun a w hS hE => OpTo.rdE 57 (.tmp 10) rfl rfl (g10) 0 (hE 10 (by kernel_rfl)) ((fun W hW => RdE.el (B10.out.touch hW notin_nil) R55.out.1 R55.out.2) w hS) (fun _ h => h)) ?_
    refine FStepsW.cons (FStepW.plain rfl fun a w hS hE => OpTo.call #[a.tmps.getD 56 undef, a.tmps.getD 57 undef] rfl Tryd.func26 (by kernel_rfl) (by kernel_rfl) (args2 ..) ((add_v (hE 56 (by kernel_rfl)) (hE 57 (by kernel_rfl)) w).mono fun _ _ h => Gives.toW 58 rfl (fun _ _ h => h) h)) ?_
    exact FStepsW.nil
  intro f w14 hS hF
  obtain ⟨h58, -⟩ := hF
  obtain ⟨l58, e58, r58⟩ := EV.list (n := addF (mulF (Z5) (Z6)) (mulF (Z5) (Z6))) (v := f 58) h58
  have R58 := Lib.hid r58
  clear r58 h58
  replace B4 := Lib.hid (B4.out.touch hS notin_nil)
  replace B5 := Lib.hid (B5.out.touch hS notin_nil)
  replace B6 := Lib.hid (B6.out.touch hS notin_nil)
  replace B7 := Lib.hid (B7.out.touch hS notin_nil)
  replace B8 := Lib.hid (B8.out.touch hS notin_nil)
  replace B9 := Lib.hid (B9.out.touch hS notin_nil)
  replace B10 := Lib.hid (B10.out.touch hS notin_nil)
  replace HT := Lib.hid (HT.out.trans hS)
  clear hS
  simp only [setAll, List.setIfInBounds_toArray, List.set_cons_zero, List.set_cons_succ, e58]
  show wpList _ _ _ [_] _ _
  refine wpList_store_row rfl 25 (.tmp 10) (.tmp 58) rfl g10 (cellsZ l58).toArray rfl rfl 25 (cellsZ l55).toArray B10.out (by rw [cellsZ_size, R58.out.1.len]; exact infoE) ((cellsZ_size _).trans ((R55.out.1.len).trans ((R58.out.1.len).symm.trans (cellsZ_size _).symm))) (cellsZ_one l58) ?_
  refine wpList_nil ?_
  simp only [Act.put]
  have B4' := (B4.out.frow NE4_10.out (cellsZ l58).toArray)
  have B5' := (B5.out.frow NE5_10.out (cellsZ l58).toArray)
  have B6' := (B6.out.frow NE6_10.out (cellsZ l58).toArray)
  have B7' := (B7.out.frow NE7_10.out (cellsZ l58).toArray)
  have B8' := (B8.out.frow NE8_10.out (cellsZ l58).toArray)
  have B9' := (B9.out.frow NE9_10.out (cellsZ l58).toArray)
  have B10' := (B10.out.setRow (cellsZ l58).toArray)
  have HT' := (HT.out.setRowE (.inr HB10.out) (cellsZ l58).toArray)
  obtain ⟨w15, hw15⟩ : ∃ w15, w15 = (w14.setRow g10 (cellsZ l58).toArray) := ⟨_, rfl⟩
  rw [← hw15] at HT' B4' B5' B6' B7' B8' B9' B10'
  rw [← hw15]
  clear hw15 HT B4 B5 B6 B7 B8 B9 B10
  have B4 := Lib.hid B4'
  clear B4'
  have B5 := Lib.hid B5'
  clear B5'
  have B6 := Lib.hid B6'
  clear B6'
  have B7 := Lib.hid B7'
  clear B7'
  have B8 := Lib.hid B8'
  clear B8'
  have B9 := Lib.hid B9'
  clear B9'
  have B10 := Lib.hid B10'
  clear B10'
  have HT := Lib.hid HT'
  clear HT'
  clear e58
  go_upto_region 8 with fail
  refine wp_region_flowX (lookW [(7, pu (isP (g7))), (8, pu (isP (g8))), (9, pu (isP (g9))), (10, pu (isP (g10))), (11, newS w15.heap.size 25 (cellsZ (List.replicate 16 0)).toArray), (12, newS w15.heap.size 25 (cellsZ (List.replicate 16 0)).toArray), (13, newS w15.heap.size 25 (cellsZ (List.replicate 16 0)).toArray), (14, newS w15.heap.size 25 (cellsZ (List.replicate 16 0)).toArray), (59, pu (EV (mulF (addF (Y5) (X5)) (addF (Y6) (X6))))), (60, pu (EV (mulF (subF (Y5) (X5)) (subF (Y6) (X6))))), (61, pu (EV (subF (mulF (addF (Y5) (X5)) (addF (Y6) (X6))) (mulF (subF (Y5) (X5)) (subF (Y6) (X6)))))), (62, pu (EV (addF (mulF (Z5) (Z6)) (mulF (Z5) (Z6))))), (63, pu (EV (addF (mulF (mulF (T5) (T6)) (DN)) (mulF (mulF (T5) (T6)) (DN))))), (64, pu (EV (subF (addF (mulF (Z5) (Z6)) (mulF (Z5) (Z6))) (addF (mulF (mulF (T5) (T6)) (DN)) (mulF (mulF (T5) (T6)) (DN)))))), (65, pu (EV (addF (mulF (Z5) (Z6)) (mulF (Z5) (Z6))))), (66, pu (EV (addF (mulF (mulF (T5) (T6)) (DN)) (mulF (mulF (T5) (T6)) (DN))))), (67, pu (EV (addF (addF (mulF (Z5) (Z6)) (mulF (Z5) (Z6))) (addF (mulF (mulF (T5) (T6)) (DN)) (mulF (mulF (T5) (T6)) (DN)))))), (68, pu (EV (mulF (addF (Y5) (X5)) (addF (Y6) (X6))))), (69, pu (EV (mulF (subF (Y5) (X5)) (subF (Y6) (X6))))), (70, pu (EV (addF (mulF (addF (Y5) (X5)) (addF (Y6) (X6))) (mulF (subF (Y5) (X5)) (subF (Y6) (X6))))))]) (by kernel_rfl) 16 [] (fun d _ _ _ _ h => by cases d <;> exact h) (by intro l hl; cases hl) [7, 8, 9, 10] [59, 60, 61, 62, 63, 64, 65, 66, 67, 68, 69, 70, 11, 12, 13, 14] [61, 64, 67, 70, 11, 12, 13, 14] [(12, 11), (13, 12), (14, 13), (15, 14)] (by kernel_rfl) (by kernel_rfl) (by kernel_rfl) (by kernel_rfl) (by kernel_rfl) (by kernel_rfl) ⟨rfl, rfl, rfl, rfl, trivial⟩ ?_ ?_
  · refine FStepsX.cons rfl (FStepW.plain rfl fun a w hS hE => OpTo.rdE 59 (.tmp 8) rfl rfl (g8) 0 (hE 8 (by kernel_rfl)) ((fun W hW => RdE.el (B8.out.touch hW notin_nil) R40.out.1 R40.out.2) w hS) (fun _ h => h)) ?_
    refine FStepsX.cons rfl (FStepW.plain rfl fun a w hS hE => OpTo.rdE 60 (.tmp 7) rfl rfl (g7) 0 (hE 7 (by kernel_rfl)) ((fun W hW => RdE.el (B7.out.touch hW notin_nil) R29.out.1 R29.out.2) w hS) (fun _ h => h)) ?_
    refine FStepsX.cons rfl (FStepW.plain rfl fun a w hS hE => OpTo.call #[a.tmps.getD 59 undef, a.tmps.getD 60 undef] rfl Tryd.func25 (by kernel_rfl) (by kernel_rfl) (args2 ..) ((sub_v (hE 59 (by kernel_rfl)) (hE 60 (by kernel_rfl)) w).mono fun _ _ h => Gives.toW 61 rfl (fun _ _ h => h) h)) ?_
    refine FStepsX.cons rfl (FStepW.plain rfl fun a w hS hE => OpTo.rdE 62 (.tmp 10) rfl rfl (g10) 0 (hE 10 (by kernel_rfl)) ((fun W hW => RdE.el (B10.out.touch hW notin_nil) R58.out.1 R58.out.2) w hS) (fun _ h => h)) ?_
    refine FStepsX.cons rfl (FStepW.plain rfl fun a w hS hE => OpTo.rdE 63 (.tmp 9) rfl rfl (g9) 0 (hE 9 (by kernel_rfl)) ((fun W hW => RdE.el (B9.out.touch hW notin_nil) R50.out.1 R50.out.2) w hS) (fun _ h => h)) ?_
    refine FStepsX.cons rfl (FStepW.plain rfl fun a w hS hE => OpTo.call #[a.tmps.getD 62 undef, a.tmps.getD 63 undef] rfl Tryd.func25 (by kernel_rfl) (by kernel_rfl) (args2 ..) ((sub_v (hE 62 (by kernel_rfl)) (hE 63 (by kernel_rfl)) w).mono fun _ _ h => Gives.toW 64 rfl (fun _ _ h => h) h)) ?_
    refine FStepsX.cons rfl (FStepW.plain rfl fun a w hS hE => OpTo.rdE 65 (.tmp 10) rfl rfl (g10) 0 (hE 10 (by kernel_rfl)) ((fun W hW => RdE.el (B10.out.touch hW notin_nil) R58.out.1 R58.out.2) w hS) (fun _ h => h)) ?_
    refine FStepsX.cons rfl (FStepW.plain rfl fun a w hS hE => OpTo.rdE 66 (.tmp 9) rfl rfl (g9) 0 (hE 9 (by kernel_rfl)) ((fun W hW => RdE.el (B9.out.touch hW notin_nil) R50.out.1 R50.out.2) w hS) (fun _ h => h)) ?_
    refine FStepsX.cons rfl (FStepW.plain rfl fun a w hS hE => OpTo.call #[a.tmps.getD 65 undef, a.tmps.getD 66 undef] rfl Tryd.func26 (by kernel_rfl) (by kernel_rfl) (args2 ..) ((add_v (hE 65 (by kernel_rfl)) (hE 66 (by kernel_rfl)) w).mono fun _ _ h => Gives.toW 67 rfl (fun _ _ h => h) h)) ?_
    refine FStepsX.cons rfl (FStepW.plain rfl fun a w hS hE => OpTo.rdE 68 (.tmp 8) rfl rfl (g8) 0 (hE 8 (by kernel_rfl)) ((fun W hW => RdE.el (B8.out.touch hW notin_nil) R40.out.1 R40.out.2) w hS) (fun _ h => h)) ?_
    refine FStepsX.cons rfl (FStepW.plain rfl fun a w hS hE => OpTo.rdE 69 (.tmp 7) rfl rfl (g7) 0 (hE 7 (by kernel_rfl)) ((fun W hW => RdE.el (B7.out.touch hW notin_nil) R29.out.1 R29.out.2) w hS) (fun _ h => h)) ?_
    refine FStepsX.cons rfl (FStepW.plain rfl fun a w hS hE => OpTo.call #[a.tmps.getD 68 undef, a.tmps.getD 69 undef] rfl Tryd.func26 (by kernel_rfl) (by kernel_rfl) (args2 ..) ((add_v (hE 68 (by kernel_rfl)) (hE 69 (by kernel_rfl)) w).mono fun _ _ h => Gives.toW 70 rfl (fun _ _ h => h) h)) ?_
    refine FStepsX.new 11 25 (cellsZ (List.replicate 16 0)).toArray rfl rfl (fun _ _ => exec_alloc_el rfl) rfl ?_
    refine FStepsX.new 12 25 (cellsZ (List.replicate 16 0)).toArray rfl rfl (fun _ _ => exec_alloc_el rfl) rfl ?_
    refine FStepsX.new 13 25 (cellsZ (List.replicate 16 0)).toArray rfl rfl (fun _ _ => exec_alloc_el rfl) rfl ?_
    refine FStepsX.new 14 25 (cellsZ (List.replicate 16 0)).toArray rfl rfl (fun _ _ => exec_alloc_el rfl) rfl ?_
    exact FStepsX.nil
  intro f w16 hS hF hA
  obtain ⟨h61, h64, h67, h70, h11, h12, h13, h14, -⟩ := hF
  obtain ⟨l61, e61, r61⟩ := EV.list (n := subF (mulF (addF (Y5) (X5)) (addF (Y6) (X6))) (mulF (subF (Y5) (X5)) (subF (Y6) (X6)))) (v := f 61) h61
  have R61 := Lib.hid r61
  clear r61 h61
  obtain ⟨l64, e64, r64⟩ := EV.list (n := subF (addF (mulF (Z5) (Z6)) (mulF (Z5) (Z6))) (addF (mulF (mulF (T5) (T6)) (DN)) (mulF (mulF (T5) (T6)) (DN)))) (v := f 64) h64
  have R64 := Lib.hid r64
  clear r64 h64
  obtain ⟨l67, e67, r67⟩ := EV.list (n := addF (addF (mulF (Z5) (Z6)) (mulF (Z5) (Z6))) (addF (mulF (mulF (T5) (T6)) (DN)) (mulF (mulF (T5) (T6)) (DN)))) (v := f 67) h67
  have R67 := Lib.hid r67
  clear r67 h67
  obtain ⟨l70, e70, r70⟩ := EV.list (n := addF (mulF (addF (Y5) (X5)) (addF (Y6) (X6))) (mulF (subF (Y5) (X5)) (subF (Y6) (X6)))) (v := f 70) h70
  have R70 := Lib.hid r70
  clear r70 h70
  obtain ⟨g11, e11, z11, b11⟩ := h11
  obtain ⟨g12, e12, z12, b12⟩ := h12
  obtain ⟨g13, e13, z13, b13⟩ := h13
  obtain ⟨g14, e14, z14, b14⟩ := h14
  have ne11_12 : g11 ≠ g12 := fun e => hA (12, 11) (by simp) (13, 12) (by simp) (by decide) (by rw [e11, e12, e])
  have NE11_12 := Lib.hid ne11_12
  clear ne11_12
  have ne11_13 : g11 ≠ g13 := fun e => hA (12, 11) (by simp) (14, 13) (by simp) (by decide) (by rw [e11, e13, e])
  have NE11_13 := Lib.hid ne11_13
  clear ne11_13
  have ne11_14 : g11 ≠ g14 := fun e => hA (12, 11) (by simp) (15, 14) (by simp) (by decide) (by rw [e11, e14, e])
  have NE11_14 := Lib.hid ne11_14
  clear ne11_14
  have ne12_13 : g12 ≠ g13 := fun e => hA (13, 12) (by simp) (14, 13) (by simp) (by decide) (by rw [e12, e13, e])
  have NE12_13 := Lib.hid ne12_13
  clear ne12_13
  have ne12_14 : g12 ≠ g14 := fun e => hA (13, 12) (by simp) (15, 14) (by simp) (by decide) (by rw [e12, e14, e])
  have NE12_14 := Lib.hid ne12_14
  clear ne12_14
  have ne13_14 : g13 ≠ g14 := fun e => hA (14, 13) (by simp) (15, 14) (by simp) (by decide) (by rw [e13, e14, e])
  have NE13_14 := Lib.hid ne13_14
  clear ne13_14
  have NE4_11 := Lib.hid (ne_new B4.out b11)
  have NE5_11 := Lib.hid (ne_new B5.out b11)
  have NE6_11 := Lib.hid (ne_new B6.out b11)
  have NE7_11 := Lib.hid (ne_new B7.out b11)
  have NE8_11 := Lib.hid (ne_new B8.out b11)
  have NE9_11 := Lib.hid (ne_new B9.out b11)
  have NE10_11 := Lib.hid (ne_new B10.out b11)
  have NE4_12 := Lib.hid (ne_new B4.out b12)
  have NE5_12 := Lib.hid (ne_new B5.out b12)
  have NE6_12 := Lib.hid (ne_new B6.out b12)
  have NE7_12 := Lib.hid (ne_new B7.out b12)
  have NE8_12 := Lib.hid (ne_new B8.out b12)
  have NE9_12 := Lib.hid (ne_new B9.out b12)
  have NE10_12 := Lib.hid (ne_new B10.out b12)
  have NE4_13 := Lib.hid (ne_new B4.out b13)
  have NE5_13 := Lib.hid (ne_new B5.out b13)
  have NE6_13 := Lib.hid (ne_new B6.out b13)
  have NE7_13 := Lib.hid (ne_new B7.out b13)
  have NE8_13 := Lib.hid (ne_new B8.out b13)
  have NE9_13 := Lib.hid (ne_new B9.out b13)
  have NE10_13 := Lib.hid (ne_new B10.out b13)
  have NE4_14 := Lib.hid (ne_new B4.out b14)
  have NE5_14 := Lib.hid (ne_new B5.out b14)
  have NE6_14 := Lib.hid (ne_new B6.out b14)
  have NE7_14 := Lib.hid (ne_new B7.out b14)
  have NE8_14 := Lib.hid (ne_new B8.out b14)
  have NE9_14 := Lib.hid (ne_new B9.out b14)
  have NE10_14 := Lib.hid (ne_new B10.out b14)
  clear hA
  replace B4 := Lib.hid (B4.out.touch hS notin_nil)
  replace B5 := Lib.hid (B5.out.touch hS notin_nil)
  replace B6 := Lib.hid (B6.out.touch hS notin_nil)
  replace B7 := Lib.hid (B7.out.touch hS notin_nil)
  replace B8 := Lib.hid (B8.out.touch hS notin_nil)
  replace B9 := Lib.hid (B9.out.touch hS notin_nil)
  replace B10 := Lib.hid (B10.out.touch hS notin_nil)
  have B11 := Lib.hid z11
  have HB11 := Lib.hid (Nat.le_trans HT.out.size b11)
  clear z11 b11
  have B12 := Lib.hid z12
  have HB12 := Lib.hid (Nat.le_trans HT.out.size b12)
  clear z12 b12
  have B13 := Lib.hid z13
  have HB13 := Lib.hid (Nat.le_trans HT.out.size b13)
  clear z13 b13
  have B14 := Lib.hid z14
  have HB14 := Lib.hid (Nat.le_trans HT.out.size b14)
  clear z14 b14
  replace HT := Lib.hid (HT.out.trans hS)
  clear hS
  simp only [setAll, List.setIfInBounds_toArray, List.set_cons_zero, List.set_cons_succ, e61, e64, e67, e70, e11, e12, e13, e14]
  show wpList _ _ _ [_, _, _, _] _ _
  refine wpList_store_row rfl 25 (.tmp 11) (.tmp 61) rfl g11 (cellsZ l61).toArray rfl rfl 25 (cellsZ (List.replicate 16 0)).toArray B11.out (by rw [cellsZ_size, R61.out.1.len]; exact infoE) ((cellsZ_size _).trans (((List.length_replicate ..)).trans ((R61.out.1.len).symm.trans (cellsZ_size _).symm))) (cellsZ_one l61) ?_
  refine wpList_store_row rfl 25 (.tmp 12) (.tmp 64) rfl g12 (cellsZ l64).toArray rfl rfl 25 (cellsZ (List.replicate 16 0)).toArray (B12.out.frow (Ne.symm NE11_12.out) (cellsZ l61).toArray) (by rw [cellsZ_size, R64.out.1.len]; exact infoE) ((cellsZ_size _).trans (((List.length_replicate ..)).trans ((R64.out.1.len).symm.trans (cellsZ_size _).symm))) (cellsZ_one l64) ?_
  refine wpList_store_row rfl 25 (.tmp 13) (.tmp 67) rfl g13 (cellsZ l67).toArray rfl rfl 25 (cellsZ (List.replicate 16 0)).toArray ((B13.out.frow (Ne.symm NE11_13.out) (cellsZ l61).toArray).frow (Ne.symm NE12_13.out) (cellsZ l64).toArray) (by rw [cellsZ_size, R67.out.1.len]; exact infoE) ((cellsZ_size _).trans (((List.length_replicate ..)).trans ((R67.out.1.len).symm.trans (cellsZ_size _).symm))) (cellsZ_one l67) ?_
  refine wpList_store_row rfl 25 (.tmp 14) (.tmp 70) rfl g14 (cellsZ l70).toArray rfl rfl 25 (cellsZ (List.replicate 16 0)).toArray (((B14.out.frow (Ne.symm NE11_14.out) (cellsZ l61).toArray).frow (Ne.symm NE12_14.out) (cellsZ l64).toArray).frow (Ne.symm NE13_14.out) (cellsZ l67).toArray) (by rw [cellsZ_size, R70.out.1.len]; exact infoE) ((cellsZ_size _).trans (((List.length_replicate ..)).trans ((R70.out.1.len).symm.trans (cellsZ_size _).symm))) (cellsZ_one l70) ?_
  refine wpList_nil ?_
  simp only [Act.put]
  have B4' := ((((B4.out.frow NE4_11.out (cellsZ l61).toArray).frow NE4_12.out (cellsZ l64).toArray).frow NE4_13.out (cellsZ l67).toArray).frow NE4_14.out (cellsZ l70).toArray)
  have B5' := ((((B5.out.frow NE5_11.out (cellsZ l61).toArray).frow NE5_12.out (cellsZ l64).toArray).frow NE5_13.out (cellsZ l67).toArray).frow NE5_14.out (cellsZ l70).toArray)
  have B6' := ((((B6.out.frow NE6_11.out (cellsZ l61).toArray).frow NE6_12.out (cellsZ l64).toArray).frow NE6_13.out (cellsZ l67).toArray).frow NE6_14.out (cellsZ l70).toArray)
  have B7' := ((((B7.out.frow NE7_11.out (cellsZ l61).toArray).frow NE7_12.out (cellsZ l64).toArray).frow NE7_13.out (cellsZ l67).toArray).frow NE7_14.out (cellsZ l70).toArray)
  have B8' := ((((B8.out.frow NE8_11.out (cellsZ l61).toArray).frow NE8_12.out (cellsZ l64).toArray).frow NE8_13.out (cellsZ l67).toArray).frow NE8_14.out (cellsZ l70).toArray)
  have B9' := ((((B9.out.frow NE9_11.out (cellsZ l61).toArray).frow NE9_12.out (cellsZ l64).toArray).frow NE9_13.out (cellsZ l67).toArray).frow NE9_14.out (cellsZ l70).toArray)
  have B10' := ((((B10.out.frow NE10_11.out (cellsZ l61).toArray).frow NE10_12.out (cellsZ l64).toArray).frow NE10_13.out (cellsZ l67).toArray).frow NE10_14.out (cellsZ l70).toArray)
  have B11' := ((((B11.out.setRow (cellsZ l61).toArray).frow NE11_12.out (cellsZ l64).toArray).frow NE11_13.out (cellsZ l67).toArray).frow NE11_14.out (cellsZ l70).toArray)
  have B12' := ((((B12.out.frow (Ne.symm NE11_12.out) (cellsZ l61).toArray).setRow (cellsZ l64).toArray).frow NE12_13.out (cellsZ l67).toArray).frow NE12_14.out (cellsZ l70).toArray)
  have B13' := ((((B13.out.frow (Ne.symm NE11_13.out) (cellsZ l61).toArray).frow (Ne.symm NE12_13.out) (cellsZ l64).toArray).setRow (cellsZ l67).toArray).frow NE13_14.out (cellsZ l70).toArray)
  have B14' := ((((B14.out.frow (Ne.symm NE11_14.out) (cellsZ l61).toArray).frow (Ne.symm NE12_14.out) (cellsZ l64).toArray).frow (Ne.symm NE13_14.out) (cellsZ l67).toArray).setRow (cellsZ l70).toArray)
  have HT' := ((((HT.out.setRowE (.inr HB11.out) (cellsZ l61).toArray).setRowE (.inr HB12.out) (cellsZ l64).toArray).setRowE (.inr HB13.out) (cellsZ l67).toArray).setRowE (.inr HB14.out) (cellsZ l70).toArray)
  obtain ⟨w17, hw17⟩ : ∃ w17, w17 = ((((w16.setRow g11 (cellsZ l61).toArray).setRow g12 (cellsZ l64).toArray).setRow g13 (cellsZ l67).toArray).setRow g14 (cellsZ l70).toArray) := ⟨_, rfl⟩
  rw [← hw17] at HT' B4' B5' B6' B7' B8' B9' B10' B11' B12' B13' B14'
  rw [← hw17]
  clear hw17 HT B4 B5 B6 B7 B8 B9 B10 B11 B12 B13 B14
  have B4 := Lib.hid B4'
  clear B4'
  have B5 := Lib.hid B5'
  clear B5'
  have B6 := Lib.hid B6'
  clear B6'
  have B7 := Lib.hid B7'
  clear B7'
  have B8 := Lib.hid B8'
  clear B8'
  have B9 := Lib.hid B9'
  clear B9'
  have B10 := Lib.hid B10'
  clear B10'
  have B11 := Lib.hid B11'
  clear B11'
  have B12 := Lib.hid B12'
  clear B12'
  have B13 := Lib.hid B13'
  clear B13'
  have B14 := Lib.hid B14'
  clear B14'
  have HT := Lib.hid HT'
  clear HT'
  clear e61 e64 e67 e70 e11 e12 e13 e14
  go_upto_region 9 with fail
  refine wp_region_flowX (lookW [(11, pu (isP (g11))), (12, pu (isP (g12))), (13, pu (isP (g13))), (14, pu (isP (g14))), (71, pu (EV (subF (mulF (addF (Y5) (X5)) (addF (Y6) (X6))) (mulF (subF (Y5) (X5)) (subF (Y6) (X6)))))), (72, pu (EV (subF (addF (mulF (Z5) (Z6)) (mulF (Z5) (Z6))) (addF (mulF (mulF (T5) (T6)) (DN)) (mulF (mulF (T5) (T6)) (DN)))))), (73, pu (EV (mulF (subF (mulF (addF (Y5) (X5)) (addF (Y6) (X6))) (mulF (subF (Y5) (X5)) (subF (Y6) (X6)))) (subF (addF (mulF (Z5) (Z6)) (mulF (Z5) (Z6))) (addF (mulF (mulF (T5) (T6)) (DN)) (mulF (mulF (T5) (T6)) (DN))))))), (74, pu (EV (addF (mulF (addF (Y5) (X5)) (addF (Y6) (X6))) (mulF (subF (Y5) (X5)) (subF (Y6) (X6)))))), (75, pu (EV (addF (addF (mulF (Z5) (Z6)) (mulF (Z5) (Z6))) (addF (mulF (mulF (T5) (T6)) (DN)) (mulF (mulF (T5) (T6)) (DN)))))), (76, pu (EV (mulF (addF (mulF (addF (Y5) (X5)) (addF (Y6) (X6))) (mulF (subF (Y5) (X5)) (subF (Y6) (X6)))) (addF (addF (mulF (Z5) (Z6)) (mulF (Z5) (Z6))) (addF (mulF (mulF (T5) (T6)) (DN)) (mulF (mulF (T5) (T6)) (DN))))))), (77, pu (EV (addF (addF (mulF (Z5) (Z6)) (mulF (Z5) (Z6))) (addF (mulF (mulF (T5) (T6)) (DN)) (mulF (mulF (T5) (T6)) (DN)))))), (78, pu (EV (subF (addF (mulF (Z5) (Z6)) (mulF (Z5) (Z6))) (addF (mulF (mulF (T5) (T6)) (DN)) (mulF (mulF (T5) (T6)) (DN)))))), (79, pu (EV (mulF (addF (addF (mulF (Z5) (Z6)) (mulF (Z5) (Z6))) (addF (mulF (mulF (T5) (T6)) (DN)) (mulF (mulF (T5) (T6)) (DN)))) (subF (addF (mulF (Z5) (Z6)) (mulF (Z5) (Z6))) (addF (mulF (mulF (T5) (T6)) (DN)) (mulF (mulF (T5) (T6)) (DN))))))), (80, pu (EV (subF (mulF (addF (Y5) (X5)) (addF (Y6) (X6))) (mulF (subF (Y5) (X5)) (subF (Y6) (X6)))))), (81, pu (EV (addF (mulF (addF (Y5) (X5)) (addF (Y6) (X6))) (mulF (subF (Y5) (X5)) (subF (Y6) (X6)))))), (82, pu (EV (mulF (subF (mulF (addF (Y5) (X5)) (addF (Y6) (X6))) (mulF (subF (Y5) (X5)) (subF (Y6) (X6)))) (addF (mulF (addF (Y5) (X5)) (addF (Y6) (X6))) (mulF (subF (Y5) (X5)) (subF (Y6) (X6))))))), (83, pu (QLv (mulF (subF (mulF (addF (Y5) (X5)) (addF (Y6) (X6))) (mulF (subF (Y5) (X5)) (subF (Y6) (X6)))) (subF (addF (mulF (Z5) (Z6)) (mulF (Z5) (Z6))) (addF (mulF (mulF (T5) (T6)) (DN)) (mulF (mulF (T5) (T6)) (DN))))) (mulF (addF (mulF (addF (Y5) (X5)) (addF (Y6) (X6))) (mulF (subF (Y5) (X5)) (subF (Y6) (X6)))) (addF (addF (mulF (Z5) (Z6)) (mulF (Z5) (Z6))) (addF (mulF (mulF (T5) (T6)) (DN)) (mulF (mulF (T5) (T6)) (DN))))) (mulF (addF (addF (mulF (Z5) (Z6)) (mulF (Z5) (Z6))) (addF (mulF (mulF (T5) (T6)) (DN)) (mulF (mulF (T5) (T6)) (DN)))) (subF (addF (mulF (Z5) (Z6)) (mulF (Z5) (Z6))) (addF (mulF (mulF (T5) (T6)) (DN)) (mulF (mulF (T5) (T6)) (DN))))) (mulF (subF (mulF (addF (Y5) (X5)) (addF (Y6) (X6))) (mulF (subF (Y5) (X5)) (subF (Y6) (X6)))) (addF (mulF (addF (Y5) (X5)) (addF (Y6) (X6))) (mulF (subF (Y5) (X5)) (subF (Y6) (X6))))))), (84, pu (PQv (mulF (subF (mulF (addF (Y5) (X5)) (addF (Y6) (X6))) (mulF (subF (Y5) (X5)) (subF (Y6) (X6)))) (subF (addF (mulF (Z5) (Z6)) (mulF (Z5) (Z6))) (addF (mulF (mulF (T5) (T6)) (DN)) (mulF (mulF (T5) (T6)) (DN))))) (mulF (addF (mulF (addF (Y5) (X5)) (addF (Y6) (X6))) (mulF (subF (Y5) (X5)) (subF (Y6) (X6)))) (addF (addF (mulF (Z5) (Z6)) (mulF (Z5) (Z6))) (addF (mulF (mulF (T5) (T6)) (DN)) (mulF (mulF (T5) (T6)) (DN))))) (mulF (addF (addF (mulF (Z5) (Z6)) (mulF (Z5) (Z6))) (addF (mulF (mulF (T5) (T6)) (DN)) (mulF (mulF (T5) (T6)) (DN)))) (subF (addF (mulF (Z5) (Z6)) (mulF (Z5) (Z6))) (addF (mulF (mulF (T5) (T6)) (DN)) (mulF (mulF (T5) (T6)) (DN))))) (mulF (subF (mulF (addF (Y5) (X5)) (addF (Y6) (X6))) (mulF (subF (Y5) (X5)) (subF (Y6) (X6)))) (addF (mulF (addF (Y5) (X5)) (addF (Y6) (X6))) (mulF (subF (Y5) (X5)) (subF (Y6) (X6)))))))]) (by kernel_rfl) 14 [] (fun d _ _ _ _ h => by cases d <;> exact h) (by intro l hl; cases hl) [11, 12, 13, 14] [71, 72, 73, 74, 75, 76, 77, 78, 79, 80, 81, 82, 83, 84] [84] [] (by kernel_rfl) (by kernel_rfl) (by kernel_rfl) (by kernel_rfl) (by kernel_rfl) (by kernel_rfl) ⟨rfl, rfl, rfl, rfl, trivial⟩ ?_ ?_
  · refine FStepsX.cons rfl (FStepW.plain rfl fun a w hS hE => OpTo.rdE 71 (.tmp 11) rfl rfl (g11) 0 (hE 11 (by kernel_rfl)) ((fun W hW => RdE.el (B11.out.touch hW notin_nil) R61.out.1 R61.out.2) w hS) (fun _ h => h)) ?_
    refine FStepsX.cons rfl (FStepW.plain rfl fun a w hS hE => OpTo.rdE 72 (.tmp 12) rfl rfl (g12) 0 (hE 12 (by kernel_rfl)) ((fun W hW => RdE.el (B12.out.touch hW notin_nil) R64.out.1 R64.out.2) w hS) (fun _ h => h)) ?_
    refine FStepsX.cons rfl (FStepW.plain rfl fun a w hS hE => OpTo.call #[a.tmps.getD 71 undef, a.tmps.getD 72 undef] rfl Tryd.func23 (by kernel_rfl) (by kernel_rfl) (args2 ..) ((mul_v (hE 71 (by kernel_rfl)) (hE 72 (by kernel_rfl)) w).mono fun _ _ h => Gives.toW 73 rfl (fun _ _ h => h) h)) ?_
    refine FStepsX.cons rfl (FStepW.plain rfl fun a w hS hE => OpTo.rdE 74 (.tmp 14) rfl rfl (g14) 0 (hE 14 (by kernel_rfl)) ((fun W hW => RdE.el (B14.out.touch hW notin_nil) R70.out.1 R70.out.2) w hS) (fun _ h => h)) ?_
    refine FStepsX.cons rfl (FStepW.plain rfl fun a w hS hE => OpTo.rdE 75 (.tmp 13) rfl rfl (g13) 0 (hE 13 (by kernel_rfl)) ((fun W hW => RdE.el (B13.out.touch hW notin_nil) R67.out.1 R67.out.2) w hS) (fun _ h => h)) ?_
    refine FStepsX.cons rfl (FStepW.plain rfl fun a w hS hE => OpTo.call #[a.tmps.getD 74 undef, a.tmps.getD 75 undef] rfl Tryd.func23 (by kernel_rfl) (by kernel_rfl) (args2 ..) ((mul_v (hE 74 (by kernel_rfl)) (hE 75 (by kernel_rfl)) w).mono fun _ _ h => Gives.toW 76 rfl (fun _ _ h => h) h)) ?_
    refine FStepsX.cons rfl (FStepW.plain rfl fun a w hS hE => OpTo.rdE 77 (.tmp 13) rfl rfl (g13) 0 (hE 13 (by kernel_rfl)) ((fun W hW => RdE.el (B13.out.touch hW notin_nil) R67.out.1 R67.out.2) w hS) (fun _ h => h)) ?_
    refine FStepsX.cons rfl (FStepW.plain rfl fun a w hS hE => OpTo.rdE 78 (.tmp 12) rfl rfl (g12) 0 (hE 12 (by kernel_rfl)) ((fun W hW => RdE.el (B12.out.touch hW notin_nil) R64.out.1 R64.out.2) w hS) (fun _ h => h)) ?_
    refine FStepsX.cons rfl (FStepW.plain rfl fun a w hS hE => OpTo.call #[a.tmps.getD 77 undef, a.tmps.getD 78 undef] rfl Tryd.func23 (by kernel_rfl) (by kernel_rfl) (args2 ..) ((mul_v (hE 77 (by kernel_rfl)) (hE 78 (by kernel_rfl)) w).mono fun _ _ h => Gives.toW 79 rfl (fun _ _ h => h) h)) ?_
    refine FStepsX.cons rfl (FStepW.plain rfl fun a w hS hE => OpTo.rdE 80 (.tmp 11) rfl rfl (g11) 0 (hE 11 (by kernel_rfl)) ((fun W hW => RdE.el (B11.out.touch hW notin_nil) R61.out.1 R61.out.2) w hS) (fun _ h => h)) ?_
    refine FStepsX.cons rfl (FStepW.plain rfl fun a w hS hE => OpTo.rdE 81 (.tmp 14) rfl rfl (g14) 0 (hE 14 (by kernel_rfl)) ((fun W hW => RdE.el (B14.out.touch hW notin_nil) R70.out.1 R70.out.2) w hS) (fun _ h => h)) ?_
    refine FStepsX.cons rfl (FStepW.plain rfl fun a w hS hE => OpTo.call #[a.tmps.getD 80 undef, a.tmps.getD 81 undef] rfl Tryd.func23 (by kernel_rfl) (by kernel_rfl) (args2 ..) ((mul_v (hE 80 (by kernel_rfl)) (hE 81 (by kernel_rfl)) w).mono fun _ _ h => Gives.toW 82 rfl (fun _ _ h => h) h)) ?_
    refine FStepsX.cons rfl (FStepW.plain rfl fun a w hS hE => OpTo.bldQ 83 _ _ _ _ rfl rfl (hE 73 (by kernel_rfl)) (hE 76 (by kernel_rfl)) (hE 79 (by kernel_rfl)) (hE 82 (by kernel_rfl)) (fun _ h => h)) ?_
    refine FStepsX.cons rfl (FStepW.plain rfl fun a w hS hE => OpTo.bldP 84 _ _ rfl rfl rfl (hE 83 (by kernel_rfl)) (fun _ h => h)) ?_
    exact FStepsX.nil
  intro f w18 hS hF hA
  obtain ⟨h84, -⟩ := hF
  obtain ⟨l84, q84, e84⟩ := h84
  have Q84 := Lib.hid q84
  clear q84
  clear hA
  replace B4 := Lib.hid (B4.out.touch hS notin_nil)
  replace B5 := Lib.hid (B5.out.touch hS notin_nil)
  replace B6 := Lib.hid (B6.out.touch hS notin_nil)
  replace B7 := Lib.hid (B7.out.touch hS notin_nil)
  replace B8 := Lib.hid (B8.out.touch hS notin_nil)
  replace B9 := Lib.hid (B9.out.touch hS notin_nil)
  replace B10 := Lib.hid (B10.out.touch hS notin_nil)
  replace B11 := Lib.hid (B11.out.touch hS notin_nil)
  replace B12 := Lib.hid (B12.out.touch hS notin_nil)
  replace B13 := Lib.hid (B13.out.touch hS notin_nil)
  replace B14 := Lib.hid (B14.out.touch hS notin_nil)
  replace HT := Lib.hid (HT.out.trans hS)
  clear hS
  simp only [setAll, List.setIfInBounds_toArray, List.set_cons_zero, List.set_cons_succ, e84]
  show wpList _ _ _ [_] _ _
  refine wpList_store_row rfl 29 (.tmp 4) (.tmp 84) rfl g4 (ptA true l84) rfl rfl 29 (ptA false zl) B4.out (by rw [ptA_size Q84.out.len]; exact infoP) ((ptA_size zl_len).trans (ptA_size Q84.out.len).symm) (ptA_one true l84) ?_
  refine wpList_nil ?_
  simp only [Act.put]
  have B4' := (B4.out.setRow (ptA true l84))
  have B5' := (B5.out.frow (Ne.symm NE4_5.out) (ptA true l84))
  have B6' := (B6.out.frow (Ne.symm NE4_6.out) (ptA true l84))
  have B7' := (B7.out.frow (Ne.symm NE4_7.out) (ptA true l84))
  have B8' := (B8.out.frow (Ne.symm NE4_8.out) (ptA true l84))
  have B9' := (B9.out.frow (Ne.symm NE4_9.out) (ptA true l84))
  have B10' := (B10.out.frow (Ne.symm NE4_10.out) (ptA true l84))
  have B11' := (B11.out.frow (Ne.symm NE4_11.out) (ptA true l84))
  have B12' := (B12.out.frow (Ne.symm NE4_12.out) (ptA true l84))
  have B13' := (B13.out.frow (Ne.symm NE4_13.out) (ptA true l84))
  have B14' := (B14.out.frow (Ne.symm NE4_14.out) (ptA true l84))
  have HT' := (HT.out.setRowE (.inr HB4.out) (ptA true l84))
  obtain ⟨w19, hw19⟩ : ∃ w19, w19 = (w18.setRow g4 (ptA true l84)) := ⟨_, rfl⟩
  rw [← hw19] at HT' B4' B5' B6' B7' B8' B9' B10' B11' B12' B13' B14'
  rw [← hw19]
  clear hw19 HT B4 B5 B6 B7 B8 B9 B10 B11 B12 B13 B14
  have B4 := Lib.hid B4'
  clear B4'
  have B5 := Lib.hid B5'
  clear B5'
  have B6 := Lib.hid B6'
  clear B6'
  have B7 := Lib.hid B7'
  clear B7'
  have B8 := Lib.hid B8'
  clear B8'
  have B9 := Lib.hid B9'
  clear B9'
  have B10 := Lib.hid B10'
  clear B10'
  have B11 := Lib.hid B11'
  clear B11'
  have B12 := Lib.hid B12'
  clear B12'
  have B13 := Lib.hid B13'
  clear B13'
  have B14 := Lib.hid B14'
  clear B14'
  have HT := Lib.hid HT'
  clear HT'
  clear e84
  go_wp2_with fail
  exact pt_ret Tryd.results9 Q84.out.len rfl 29 B4.out HT.out (PQv.pt (rep_add QR5.out QR6.out rfl rfl rfl rfl rfl rfl rfl rfl) ⟨_, Q84.out, rfl⟩)
end Go.Proofs.YtbgpgbfiadhddaaDoor
/- Point.Neg. -/
namespace Go.Proofs.YtbgpgbfiadhddaaDoor
open Go Go.RowKit
theorem Blk.there_ {w : World} {g : Nat} {t : TypeId} {cs : Array Value} (h : Blk w g t cs) (o n : Nat) (hn : o + n ≤ cs.size) : w.there g o n := fun j hj => ⟨by
  rw [h.cell, Array.getElem?_eq_getElem (by omega)]; rfl, h.frozen _⟩
/-- A number is laid over one of four. -/
theorem put_mid {w : World} {g : Nat} {t : TypeId} {x y z r : List Int} (h : Blk w g t (cellsZ (x ++ y ++ z)).toArray) (hr : r.length = y.length) (o : Nat) (ho : o = x.length) : Blk (w.setCells g o (cellsZ r).toArray.toList) g t (cellsZ (x ++ r ++ z)).toArray := by
  obtain ⟨cs', h1, h2, h3, h4⟩ := Blk.setCells (cellsZ r).toArray.toList o w _ h
  have hlen : (cellsZ r).toArray.toList.length = r.length := by simp [cellsZ]
  have hs : cs'.size = x.length + y.length + z.length := by rw [h2, cellsZ_size]; simp [Nat.add_assoc]
  have e : cs' = (cellsZ (x ++ r ++ z)).toArray := by
    refine Array.ext_getElem? fun j => ?_
    rw [show (cellsZ (x ++ r ++ z)).toArray[j]? = (cellsZ (x ++ r ++ z))[j]? from List.getElem?_toArray]
    by_cases hj : j < o ∨ o + r.length ≤ j
    · rw [h3 j (by rw [hlen]; exact hj), List.getElem?_toArray]
      unfold cellsZ
      rw [List.getElem?_map, List.getElem?_map]
      congr 1
      rcases hj with hj | hj
      · rw [List.append_assoc, List.append_assoc, List.getElem?_append_left (by omega), List.getElem?_append_left (by omega)]
      · rw [List.getElem?_append_right (by rw [List.length_append]; omega), List.getElem?_append_right (by rw [List.length_append]; omega), List.length_append, List.length_append, hr]
    · obtain ⟨k, rfl⟩ : ∃ k, j = o + k := ⟨j - o, by omega⟩
      have hk : k < r.length := by omega
      have hu : (cellsZ r).toArray.toList[k]? = some (.int .i64 (r.getD k 0)) := by simp [cellsZ, List.getD, hk]
      rw [h4 k _ hu (by rw [cellsZ_size, List.length_append, List.length_append]; omega)]
      unfold cellsZ
      rw [List.getElem?_map, List.append_assoc, List.getElem?_append_right (by omega), List.getElem?_append_left (by omega), show o + k - x.length = k by omega, List.getElem?_eq_getElem hk]
      simp [List.getD, hk]
  rw [← e]
  exact h1
theorem put0 {w : World} {g : Nat} {t : TypeId} {X Y Z T n : Nat} {l r : List Int} (h : Blk w g t (cellsZ l).toArray) (hq : QL X Y Z T l) (hr : Red r ∧ fe r = n) : ∃ l', Blk (w.setCells g 0 (cellsZ r).toArray.toList) g t (cellsZ l').toArray ∧ QL n Y Z T l' := by
  obtain ⟨x, y, z, u, ⟨hx, hy, hz, hu⟩, ⟨fx, fy, fz, fu⟩, rfl⟩ := hq
  refine ⟨r ++ y ++ z ++ u, ?_, r, y, z, u, ⟨hr.1, hy, hz, hu⟩, ⟨hr.2, fy, fz, fu⟩, rfl⟩
  have h' : Blk w g t (cellsZ ([] ++ x ++ (y ++ z ++ u))).toArray := by rw [List.nil_append, ← List.append_assoc, ← List.append_assoc]; exact h
  have := put_mid (r := r) h' (by rw [hr.1.len, hx.len]) 0 rfl
  rw [List.nil_append, ← List.append_assoc, ← List.append_assoc] at this
  exact this
theorem put3 {w : World} {g : Nat} {t : TypeId} {X Y Z T n : Nat} {l r : List Int} (h : Blk w g t (cellsZ l).toArray) (hq : QL X Y Z T l) (hr : Red r ∧ fe r = n) : ∃ l', Blk (w.setCells g 48 (cellsZ r).toArray.toList) g t (cellsZ l').toArray ∧ QL X Y Z n l' := by
  obtain ⟨x, y, z, u, ⟨hx, hy, hz, hu⟩, ⟨fx, fy, fz, fu⟩, rfl⟩ := hq
  refine ⟨x ++ y ++ z ++ r, ?_, x, y, z, r, ⟨hx, hy, hz, hr.1⟩, ⟨fx, fy, fz, hr.2⟩, rfl⟩
  have h' : Blk w g t (cellsZ ((x ++ y ++ z) ++ u ++ [])).toArray := by rw [List.append_nil]; exact h
  have := put_mid (r := r) h' (by rw [hr.1.len, hu.len]) 48 (by rw [List.length_append, List.length_append, hx.len, hy.len, hz.len])
  rw [List.append_nil] at this
  exact this
theorem OpTo.rdQL {o : Oper} {a : Act} {w : World} {T : Tmp → SP} (d : Tmp) (x : Operand) (ho : o.op = .load 27 x) (hd : o.dst = some d) (g : Nat) (hx : a.eval x = .pointer (some ⟨g, 0, none⟩)) {t : TypeId} {l : List Int} (hB : Blk w g t (cellsZ l).toArray) {X Y Z U : Nat} (h : QL X Y Z U l) (hT : ∀ v, QLv X Y Z U v → (T d).p v w) :
    OpTo Tryd.prog o a w (fun v w' => dOfW o T v w' ∧ Touch [] w w') :=
  OpTo.rowG d 27 x ho hd g hx t (cellsZ l).toArray _ hB Tryd.underlying27 rfl (by rw [cellsZ_size, h.len]; exact infoQ) (hT _ ⟨l, h, rfl⟩)
set_option maxRecDepth 100000 in
set_option maxHeartbeats 4000000 in
theorem pneg_v {P : Pt} {x : Value} (hx : PtV P x) (w : World) : Calls Tryd.prog 11 #[x] w (Gives w (PtV (pneg P))) := by
  obtain ⟨b1, l1, h1, rfl⟩ := hx
  have P1 := Lib.hid h1
  clear h1
  unfold ptV
  go_enter Tryd.func11, Tryd.ntmps11
  go_upto_region 0 with fail
  refine wp_region_list ?_
  refine wpList_run rfl (exec_box rfl rfl) ?_
  refine wpList_run rfl (exec_alloc_pt rfl) ?_
  refine wpList_nil ?_
  simp only [Act.put, List.setIfInBounds_toArray, List.set_cons_zero, List.set_cons_succ]
  obtain ⟨w1, g1, g2, hW, eg1, eg2, b1, b2, ht, hb1, hb2, ne1_2⟩ := start2 w 29 (ptA b1 l1) 29 (ptA false zl)
  rw [← hW]
  rw [← eg2]
  rw [← eg1]
  have HT := Lib.hid ht
  have B1 := Lib.hid b1
  have HB1 := Lib.hid hb1
  have B2 := Lib.hid b2
  have HB2 := Lib.hid hb2
  have NE1_2 := Lib.hid ne1_2
  clear hW eg1 eg2 b1 b2 ht hb1 hb2 ne1_2
  go_upto_region 1 with fail
  refine wp_region_list (wpList_flowP 3 (lookW [(1, pu (isP (g1))), (3, newS w1.heap.size 27 (cellsZ zl).toArray), (4, pu (PtV (P))), (5, pu (QuV (P)))]) [1] [4, 5, 3] [5, 3] (by kernel_rfl) (by kernel_rfl) (by kernel_rfl) ⟨rfl, trivial⟩ ?_ ?_)
  · refine FStepsW.cons (FStepW.plain rfl fun a w hS hE => OpTo.rdP 4 (.tmp 1) rfl rfl (g1) (hE 1 (by kernel_rfl)) (B1.out.touch hS notin_nil) P1.out (fun _ h => h)) ?_
    refine FStepsW.cons (FStepW.plain rfl fun a w hS hE => OpTo.call #[a.tmps.getD 4 undef] rfl Tryd.func22 (by kernel_rfl) (by kernel_rfl) (args1 ..) ((whole_v (hE 4 (by kernel_rfl)) w).mono fun _ _ h => Gives.toW 5 rfl (fun _ _ h => h) h)) ?_
    refine FStepsW.cons (FStepW.plain rfl fun a w hS hE => OpTo.allocG 3 27 (cellsZ zl).toArray rfl hS (exec_alloc_quad rfl) rfl) ?_
    exact FStepsW.nil
  intro f w2 hS hF
  obtain ⟨h5, h3, -⟩ := hF
  obtain ⟨l5, q5, e5⟩ := h5
  obtain ⟨g3, e3, z3, b3⟩ := h3
  have NE1_3 := Lib.hid (ne_new B1.out b3)
  have NE2_3 := Lib.hid (ne_new B2.out b3)
  replace B1 := Lib.hid (B1.out.touch hS notin_nil)
  replace B2 := Lib.hid (B2.out.touch hS notin_nil)
  have B3 := Lib.hid z3
  have HB3 := Lib.hid (Nat.le_trans HT.out.size b3)
  clear z3 b3
  replace HT := Lib.hid (HT.out.trans hS)
  clear hS
  simp only [setAll, List.setIfInBounds_toArray, List.set_cons_zero, List.set_cons_succ, e5, e3]
  show wpList _ _ _ [_] _ _
  obtain ⟨X3, Y3, Z3, T3, qr3, ql3⟩ := q5
  have QR3 := Lib.hid qr3
  have Q3 := Lib.hid ql3
  clear qr3 ql3
  refine wpList_store_row rfl 27 (.tmp 3) (.tmp 5) rfl g3 (cellsZ l5).toArray rfl rfl 27 (cellsZ zl).toArray B3.out (by rw [cellsZ_size, Q3.out.len]; exact infoQ) ((cellsZ_size _).trans ((zl_len).trans ((Q3.out.len).symm.trans (cellsZ_size _).symm))) (cellsZ_one l5) ?_
  refine wpList_nil ?_
  simp only [Act.put]
  have B1' := (B1.out.frow NE1_3.out (cellsZ l5).toArray)
  have B2' := (B2.out.frow NE2_3.out (cellsZ l5).toArray)
  have B3' := (B3.out.setRow (cellsZ l5).toArray)
  have HT' := (HT.out.setRowE (.inr HB3.out) (cellsZ l5).toArray)
  obtain ⟨w3, hw3⟩ : ∃ w3, w3 = (w2.setRow g3 (cellsZ l5).toArray) := ⟨_, rfl⟩
  rw [← hw3] at HT' B1' B2' B3'
  rw [← hw3]
  clear hw3 HT B1 B2 B3
  have B1 := Lib.hid B1'
  clear B1'
  have B2 := Lib.hid B2'
  clear B2'
  have B3 := Lib.hid B3'
  clear B3'
  have HT := Lib.hid HT'
  clear HT'
  clear B1 HB1
  clear e5 e3
  go_upto_region 2 with fail
  refine wp_region_flowX (lookW [(3, pu (isP (g3))), (6, pu (isV (.pointer (some ⟨g3, 0, none⟩)))), (7, pu (EV (X3))), (8, pu (EV (negF (X3)))), (9, pu (isV (.pointer (some ⟨g3, 48, none⟩)))), (10, pu (EV (T3))), (11, pu (EV (negF (T3)))), (12, pu (isV (.pointer (some ⟨g3, 0, none⟩))))]) (by kernel_rfl) 7 [] (fun d _ _ _ _ h => by cases d <;> exact h) (by intro l hl; cases hl) [3] [6, 7, 8, 9, 10, 11, 12] [8, 11, 12] [] (by kernel_rfl) (by kernel_rfl) (by kernel_rfl) (by kernel_rfl) (by kernel_rfl) (by kernel_rfl) ⟨rfl, trivial⟩ ?_ ?_
  · refine FStepsX.cons rfl (FStepW.plain rfl fun a w hS hE => OpTo.pureG (v := .pointer (some ⟨g3, 0, none⟩)) 6 rfl (by have h3 : a.eval (.tmp 3) = .pointer (some ⟨g3, 0, none⟩) := hE 3 (by kernel_rfl); unfold execOp; simp only [h3]; go_simp) rfl) ?_
    refine FStepsX.cons rfl (FStepW.plain rfl fun a w hS hE => OpTo.rdE 7 (.tmp 6) rfl rfl (g3) 0 (hE 6 (by kernel_rfl)) ((fun W hW => RdE.q0 (B3.out.touch hW notin_nil) Q3.out) w hS) (fun _ h => h)) ?_
    refine FStepsX.cons rfl (FStepW.plain rfl fun a w hS hE => OpTo.call #[a.tmps.getD 7 undef] rfl Tryd.func29 (by kernel_rfl) (by kernel_rfl) (args1 ..) ((neg_v (hE 7 (by kernel_rfl)) w).mono fun _ _ h => Gives.toW 8 rfl (fun _ _ h => h) h)) ?_
    refine FStepsX.cons rfl (FStepW.plain rfl fun a w hS hE => OpTo.pureG (v := .pointer (some ⟨g3, 48, none⟩)) 9 rfl (by have h3 : a.eval (.tmp 3) = .pointer (some ⟨g3, 0, none⟩) := hE 3 (by kernel_rfl); unfold execOp; simp only [h3]; go_simp) rfl) ?_
    refine FStepsX.cons rfl (FStepW.plain rfl fun a w hS hE => OpTo.rdE 10 (.tmp 9) rfl rfl (g3) 48 (hE 9 (by kernel_rfl)) ((fun W hW => RdE.q3 (B3.out.touch hW notin_nil) Q3.out) w hS) (fun _ h => h)) ?_
    refine FStepsX.cons rfl (FStepW.plain rfl fun a w hS hE => OpTo.call #[a.tmps.getD 10 undef] rfl Tryd.func29 (by kernel_rfl) (by kernel_rfl) (args1 ..) ((neg_v (hE 10 (by kernel_rfl)) w).mono fun _ _ h => Gives.toW 11 rfl (fun _ _ h => h) h)) ?_
    refine FStepsX.cons rfl (FStepW.plain rfl fun a w hS hE => OpTo.pureG (v := .pointer (some ⟨g3, 0, none⟩)) 12 rfl (by have h3 : a.eval (.tmp 3) = .pointer (some ⟨g3, 0, none⟩) := hE 3 (by kernel_rfl); unfold execOp; simp only [h3]; go_simp) rfl) ?_
    exact FStepsX.nil
  intro f w4 hS hF hA
  obtain ⟨h8, h11, h12, -⟩ := hF
  obtain ⟨l8, e8, r8⟩ := EV.list (n := negF (X3)) (v := f 8) h8
  have R8 := Lib.hid r8
  clear r8 h8
  obtain ⟨l11, e11, r11⟩ := EV.list (n := negF (T3)) (v := f 11) h11
  have R11 := Lib.hid r11
  clear r11 h11
  have e12 : f 12 = .pointer (some ⟨g3, 0, none⟩) := h12
  clear h12
  clear hA
  replace B2 := Lib.hid (B2.out.touch hS notin_nil)
  replace B3 := Lib.hid (B3.out.touch hS notin_nil)
  replace HT := Lib.hid (HT.out.trans hS)
  clear hS
  simp only [setAll, List.setIfInBounds_toArray, List.set_cons_zero, List.set_cons_succ, e8, e11, e12]
  show wpList _ _ _ [_, _, _] _ _
  refine wpList_store_mid rfl 25 (.tmp 12) (.tmp 8) rfl g3 0 (cellsZ l8).toArray rfl rfl (B3.out.there_ 0 _ (by rw [cellsZ_size, cellsZ_size, R8.out.1.len, Q3.out.len]; decide)) (by rw [cellsZ_size, R8.out.1.len]; exact infoE) (cellsZ_one l8) ?_
  obtain ⟨la, ba, qa⟩ := put0 B3.out Q3.out R8.out
  refine wpList_run (v := .pointer (some ⟨g3, 48, none⟩)) (w' := w4.setCells g3 0 (cellsZ l8).toArray.toList) rfl (by unfold execOp; simp only [Act.put]; go_simp) ?_
  refine wpList_store_mid rfl 25 (.tmp 13) (.tmp 11) rfl g3 48 (cellsZ l11).toArray rfl rfl (ba.there_ 48 _ (by rw [cellsZ_size, cellsZ_size, R11.out.1.len, qa.len]; decide)) (by rw [cellsZ_size, R11.out.1.len]; exact infoE) (cellsZ_one l11) ?_
  obtain ⟨lb, bb, qb⟩ := put3 ba qa R11.out
  have H2 := ((B2.out.farCells NE2_3.out (cellsZ l8).toArray.toList 0).farCells NE2_3.out (cellsZ l11).toArray.toList 48)
  have HT2 := Touch.setCells (.inr HB3.out) (cellsZ l11).toArray.toList 48 _ (Touch.setCells (.inr HB3.out) (cellsZ l8).toArray.toList 0 _ HT.out)
  refine wpList_nil ?_
  simp only [Act.put, List.setIfInBounds_toArray, List.set_cons_zero, List.set_cons_succ]
  clear B2 B3 HT
  obtain ⟨wn, hwn⟩ : ∃ wn, wn = ((w4.setCells g3 0 (cellsZ l8).toArray.toList).setCells g3 48 (cellsZ l11).toArray.toList) := ⟨_, rfl⟩
  rw [← hwn] at bb H2 HT2
  rw [← hwn]
  clear hwn ba qa
  have B2 := Lib.hid H2
  have B3 := Lib.hid bb
  have Qb := Lib.hid qb
  have HT := Lib.hid HT2
  clear H2 bb qb HT2
  go_upto_region 3 with fail
  refine wp_region_list (wpList_flowP 2 (lookW [(3, pu (isP (g3))), (14, pu (QLv (negF (X3)) (Y3) (Z3) (negF (T3)))), (15, pu (PQv (negF (X3)) (Y3) (Z3) (negF (T3))))]) [3] [14, 15] [15] (by kernel_rfl) (by kernel_rfl) (by kernel_rfl) ⟨rfl, trivial⟩ ?_ ?_)
  · refine FStepsW.cons (FStepW.plain rfl fun a w hS hE => OpTo.rdQL 14 (.tmp 3) rfl rfl (g3) (hE 3 (by kernel_rfl)) (B3.out.touch hS notin_nil) Qb.out (fun _ h => h)) ?_
    refine FStepsW.cons (FStepW.plain rfl fun a w hS hE => OpTo.bldP 15 _ _ rfl rfl rfl (hE 14 (by kernel_rfl)) (fun _ h => h)) ?_
    exact FStepsW.nil
  intro f w5 hS hF
  obtain ⟨h15, -⟩ := hF
  obtain ⟨l15, q15, e15⟩ := h15
  have Q15 := Lib.hid q15
  clear q15
  replace B2 := Lib.hid (B2.out.touch hS notin_nil)
  replace B3 := Lib.hid (B3.out.touch hS notin_nil)
  replace HT := Lib.hid (HT.out.trans hS)
  clear hS
  simp only [setAll, List.setIfInBounds_toArray, List.set_cons_zero, List.set_cons_succ, e15]
  show wpList _ _ _ [_] _ _
  refine wpList_store_row rfl 29 (.tmp 2) (.tmp 15) rfl g2 (ptA true l15) rfl rfl 29 (ptA false zl) B2.out (by rw [ptA_size Q15.out.len]; exact infoP) ((ptA_size zl_len).trans (ptA_size Q15.out.len).symm) (ptA_one true l15) ?_
  refine wpList_nil ?_
  simp only [Act.put]
  have B2' := (B2.out.setRow (ptA true l15))
  have B3' := (B3.out.frow (Ne.symm NE2_3.out) (ptA true l15))
  have HT' := (HT.out.setRowE (.inr HB2.out) (ptA true l15))
  obtain ⟨w6, hw6⟩ : ∃ w6, w6 = (w5.setRow g2 (ptA true l15)) := ⟨_, rfl⟩
  rw [← hw6] at HT' B2' B3'
  rw [← hw6]
  clear hw6 HT B2 B3
  have B2 := Lib.hid B2'
  clear B2'
  have B3 := Lib.hid B3'
  clear B3'
  have HT := Lib.hid HT'
  clear HT'
  clear e15
  go_wp2_with fail
  exact pt_ret Tryd.results11 Q15.out.len rfl 29 B2.out HT.out (PQv.pt (rep_neg QR3.out) ⟨_, Q15.out, rfl⟩)
end Go.Proofs.YtbgpgbfiadhddaaDoor
/- point.Decode. -/
namespace Go.Proofs.YtbgpgbfiadhddaaDoor
open Go Go.RowKit
set_option maxRecDepth 100000 in
set_option maxHeartbeats 4000000 in
theorem pdec_v {s : ByteArray} {x : Value} (hx : isS s x) (w : World) : Calls Tryd.prog 16 #[x] w (Gives w (Tup (PtV (decP s)) (.int .i64 (decC s)))) := by
  obtain rfl : x = .string s := hx
  by_cases h32 : s.size = 32
  case neg =>
    have K14 := Lib.hid (show decide ((s.size : Int) = 32) = false from decide_eq_false (by omega))
    have HN := Lib.hid (show ¬ decOK s from fun h => h32 h.1)
    clear h32
    go_enter Tryd.func16, Tryd.ntmps16
    go_upto_region 0 with fail
    refine wp_region_list ?_
    refine wpList_run rfl (exec_alloc_pt rfl) ?_
    refine wpList_run (v := .int .i64 0) rfl (exec_assignV rfl rfl) ?_
    refine wpList_nil ?_
    simp only [Act.put, List.setIfInBounds_toArray, List.set_cons_zero, List.set_cons_succ]
    obtain ⟨w1, g2, hW, eg2, b2, ht, hb2⟩ := start1 w 29 (ptA false zl)
    rw [← hW]
    rw [← eg2]
    have HT := Lib.hid ht
    have B2 := Lib.hid b2
    have HB2 := Lib.hid hb2
    clear hW eg2 b2 ht hb2
    go_upto_region 1 with fail
    refine wp_region_list (wpList_flowP 3 (lookW [(0, pu (isS (s))), (12, pu (isS (s))), (13, pu (isV (.int .i64 (((s).size : Int))))), (14, pu (isB true))]) [0] [12, 13, 14] [14] (by kernel_rfl) (by kernel_rfl) (by kernel_rfl) ⟨rfl, trivial⟩ ?_ ?_)
    · refine FStepsW.cons (FStepW.plain rfl fun a w hS hE => OpTo.move rfl ⟨dOfW.of 12 rfl (hE 0 (by kernel_rfl)), Touch.refl _ _⟩) ?_
      refine FStepsW.cons (FStepW.plain rfl fun a w hS hE => OpTo.lenS Tryd.underlying9 (s) rfl (hE 12 (by kernel_rfl)) ⟨dOfW.of 13 rfl rfl, Touch.refl _ _⟩) ?_
      refine FStepsW.cons (FStepW.plain rfl fun a w hS hE => OpTo.neI (((s).size : Int)) (32) rfl (hE 13 (by kernel_rfl)) rfl ⟨dOfW.of 14 rfl (by rw [K14.out]; rfl), Touch.refl _ _⟩) ?_
      exact FStepsW.nil
    intro f w2 hS hF
    obtain ⟨h14, -⟩ := hF
    have e14 : f 14 = .bool true := h14
    clear h14
    replace B2 := Lib.hid (B2.out.touch hS notin_nil)
    replace HT := Lib.hid (HT.out.trans hS)
    clear hS
    simp only [setAll, List.setIfInBounds_toArray, List.set_cons_zero, List.set_cons_succ, e14]
    show wpList _ _ _ [] _ _
    refine wpList_nil ?_
    clear e14
    go_upto_region 2 with fail
    refine wp_region_list (wpList_flowP 1 (lookW [(15, pu (isV (ptV false zl)))]) [] [15] [15] (by kernel_rfl) (by kernel_rfl) (by kernel_rfl) trivial ?_ ?_)
    · refine FStepsW.cons (FStepW.plain rfl fun a w hS hE => OpTo.pureG (v := ptV false zl) 15 rfl (by unfold execOp; simp only [List.map_toArray, List.map_nil, Sem.run_bind, Sem.run_pure, run_build_pt0, Result.andThen_ok]) rfl) ?_
      exact FStepsW.nil
    intro f w3 hS hF
    obtain ⟨h15, -⟩ := hF
    have e15 : f 15 = ptV false zl := h15
    clear h15
    replace B2 := Lib.hid (B2.out.touch hS notin_nil)
    replace HT := Lib.hid (HT.out.trans hS)
    clear hS
    simp only [setAll, List.setIfInBounds_toArray, List.set_cons_zero, List.set_cons_succ, e15]
    show wpList _ _ _ [_, _] _ _
    refine wpList_store_row rfl 29 (.tmp 2) (.tmp 15) rfl g2 (ptA false zl) rfl rfl 29 (ptA false zl) B2.out (by rw [ptA_size zl_len]; exact infoP) ((ptA_size zl_len).trans (ptA_size zl_len).symm) (ptA_one false zl) ?_
    refine wpList_run (v := .int .i64 9) rfl (exec_assignV rfl rfl) ?_
    refine wpList_nil ?_
    simp only [Act.put, List.setIfInBounds_toArray, List.set_cons_zero, List.set_cons_succ]
    have B2' := (B2.out.setRow (ptA false zl))
    have HT' := (HT.out.setRowE (.inr HB2.out) (ptA false zl))
    obtain ⟨w4, hw4⟩ : ∃ w4, w4 = (w3.setRow g2 (ptA false zl)) := ⟨_, rfl⟩
    rw [← hw4] at HT' B2'
    rw [← hw4]
    clear hw4 HT B2
    have B2 := Lib.hid B2'
    clear B2'
    have HT := Lib.hid HT'
    clear HT'
    clear e15
    go_wp2_with fail
    rw [decP_no HN.out, decC_no HN.out]
    exact dec_ret Tryd.results16 zl_len rfl rfl 29 B2.out HT.out PtV.none
  case pos =>
    have K14 := Lib.hid (show decide ((s.size : Int) = 32) = true from decide_eq_true (by omega))
    have K31 := Lib.hid (show 31 < s.size by omega)
    have H32 := Lib.hid h32
    obtain ⟨b, hb⟩ : ∃ b, b = (bl s).getD 31 0 := ⟨_, rfl⟩
    have hb256 : b < 256 := hb ▸ byte_lt s 31
    have K17 := Lib.hid hb
    have KY := Lib.hid (yS_eq h32)
    have KS := Lib.hid (yS_size h32)
    rw [← hb] at KY KS
    have KA : Hid (bits .and .u8 (b : Int) 128 = ((b / 128 * 128 : Nat) : Int)) := Lib.hid (and128_all ⟨b, hb256⟩).1
    have KN : Hid (bits .andNot .u8 (b : Int) 128 = ((b % 128 : Nat) : Int)) := Lib.hid (and128_all ⟨b, hb256⟩).2
    have KL := Lib.hid (dyN_lt s)
    have h31 : (31 : Int) ≤ (s.size : Int) := by omega
    have H31 := Lib.hid h31
    have KO : Hid (oddS s = decide (0 < ((b / 128 * 128 : Nat) : Int))) := Lib.hid (by
      unfold oddS
      rw [← hb]
      exact decide_eq_decide.2 (by omega))
    clear h32 hb hb256 h31
    go_enter Tryd.func16, Tryd.ntmps16
    go_upto_region 0 with fail
    refine wp_region_list ?_
    refine wpList_run rfl (exec_alloc_pt rfl) ?_
    refine wpList_run (v := .int .i64 0) rfl (exec_assignV rfl rfl) ?_
    refine wpList_nil ?_
    simp only [Act.put, List.setIfInBounds_toArray, List.set_cons_zero, List.set_cons_succ]
    obtain ⟨w1, g2, hW, eg2, b2, ht, hb2⟩ := start1 w 29 (ptA false zl)
    rw [← hW]
    rw [← eg2]
    have HT := Lib.hid ht
    have B2 := Lib.hid b2
    have HB2 := Lib.hid hb2
    clear hW eg2 b2 ht hb2
    go_upto_region 1 with fail
    refine wp_region_list (wpList_flowP 3 (lookW [(0, pu (isS (s))), (12, pu (isS (s))), (13, pu (isV (.int .i64 (((s).size : Int))))), (14, pu (isB false))]) [0] [12, 13, 14] [14] (by kernel_rfl) (by kernel_rfl) (by kernel_rfl) ⟨rfl, trivial⟩ ?_ ?_)
    · refine FStepsW.cons (FStepW.plain rfl fun a w hS hE => OpTo.move rfl ⟨dOfW.of 12 rfl (hE 0 (by kernel_rfl)), Touch.refl _ _⟩) ?_
      refine FStepsW.cons (FStepW.plain rfl fun a w hS hE => OpTo.lenS Tryd.underlying9 (s) rfl (hE 12 (by kernel_rfl)) ⟨dOfW.of 13 rfl rfl, Touch.refl _ _⟩) ?_
      refine FStepsW.cons (FStepW.plain rfl fun a w hS hE => OpTo.neI (((s).size : Int)) (32) rfl (hE 13 (by kernel_rfl)) rfl ⟨dOfW.of 14 rfl (by rw [K14.out]; rfl), Touch.refl _ _⟩) ?_
      exact FStepsW.nil
    intro f w2 hS hF
    obtain ⟨h14, -⟩ := hF
    have e14 : f 14 = .bool false := h14
    clear h14
    replace B2 := Lib.hid (B2.out.touch hS notin_nil)
    replace HT := Lib.hid (HT.out.trans hS)
    clear hS
    simp only [setAll, List.setIfInBounds_toArray, List.set_cons_zero, List.set_cons_succ, e14]
    show wpList _ _ _ [] _ _
    refine wpList_nil ?_
    clear e14
    go_upto_region 3 with fail
    refine wp_region_flowX (lookW [(0, pu (isS (s))), (4, pu (isB (oddS s))), (5, pu (isV (.int .u8 (((b % 128 : Nat) : Int))))), (16, pu (isS (s))), (17, pu (isV (.int .u8 ((b : Int))))), (18, pu (isV (.int .u8 (((b / 128 * 128 : Nat) : Int))))), (19, pu (isB (oddS s))), (20, pu (isS (s))), (21, pu (isV (.int .u8 ((b : Int))))), (22, pu (isV (.int .u8 (((b % 128 : Nat) : Int)))))]) (by kernel_rfl) 9 [] (fun d _ _ _ _ h => by cases d <;> exact h) (by intro l hl; cases hl) [0] [16, 17, 18, 19, 20, 21, 22, 4, 5] [4, 5] [] (by kernel_rfl) (by kernel_rfl) (by kernel_rfl) (by kernel_rfl) (by kernel_rfl) (by kernel_rfl) ⟨rfl, trivial⟩ ?_ ?_
    · refine FStepsX.cons rfl (FStepW.plain rfl fun a w hS hE => OpTo.move rfl ⟨dOfW.of 16 rfl (hE 0 (by kernel_rfl)), Touch.refl _ _⟩) ?_
      refine FStepsX.cons rfl (FStepW.plain rfl fun a w hS hE => OpTo.indexS Tryd.underlying9 (s) (31) rfl (hE 16 (by kernel_rfl)) rfl K31.out ⟨dOfW.of 17 rfl (by rw [← K17.out]; rfl), Touch.refl _ _⟩) ?_
      refine FStepsX.cons rfl (FStepW.plain rfl fun a w hS hE => OpTo.pureG (v := .int .u8 ((b / 128 * 128 : Nat) : Int)) 18 rfl (by have h17 : a.eval (.tmp 17) = .int .u8 (b : Int) := hE 17 (by kernel_rfl); have ka := KA.out; unfold execOp; simp only [h17]; go_simp) rfl) ?_
      refine FStepsX.cons rfl (FStepW.plain rfl fun a w hS hE => OpTo.gtI (((b / 128 * 128 : Nat) : Int)) (0) rfl (hE 18 (by kernel_rfl)) rfl ⟨dOfW.of 19 rfl (by rw [KO.out]; rfl), Touch.refl _ _⟩) ?_
      refine FStepsX.cons rfl (FStepW.plain rfl fun a w hS hE => OpTo.move rfl ⟨dOfW.of 20 rfl (hE 0 (by kernel_rfl)), Touch.refl _ _⟩) ?_
      refine FStepsX.cons rfl (FStepW.plain rfl fun a w hS hE => OpTo.indexS Tryd.underlying9 (s) (31) rfl (hE 20 (by kernel_rfl)) rfl K31.out ⟨dOfW.of 21 rfl (by rw [← K17.out]; rfl), Touch.refl _ _⟩) ?_
      refine FStepsX.cons rfl (FStepW.plain rfl fun a w hS hE => OpTo.pureG (v := .int .u8 ((b % 128 : Nat) : Int)) 22 rfl (by have h21 : a.eval (.tmp 21) = .int .u8 (b : Int) := hE 21 (by kernel_rfl); have kn := KN.out; unfold execOp; simp only [h21]; go_simp) rfl) ?_
      refine FStepsX.cons rfl (FStepW.plain rfl fun a w hS hE => OpTo.assign rfl ⟨dOfW.of 4 rfl (hE 19 (by kernel_rfl)), Touch.refl _ _⟩) ?_
      refine FStepsX.cons rfl (FStepW.plain rfl fun a w hS hE => OpTo.assign rfl ⟨dOfW.of 5 rfl (hE 22 (by kernel_rfl)), Touch.refl _ _⟩) ?_
      exact FStepsX.nil
    intro f w3 hS hF hA
    obtain ⟨h4, h5, -⟩ := hF
    have e4 : f 4 = .bool (oddS s) := h4
    clear h4
    have e5 : f 5 = .int .u8 (((b % 128 : Nat) : Int)) := h5
    clear h5
    clear hA
    replace B2 := Lib.hid (B2.out.touch hS notin_nil)
    replace HT := Lib.hid (HT.out.trans hS)
    clear hS
    simp only [setAll, List.setIfInBounds_toArray, List.set_cons_zero, List.set_cons_succ, e4, e5]
    show wpList _ _ _ [] _ _
    refine wpList_nil ?_
    clear e4 e5
    go_upto_region 4 with fail
    by_cases hP : dyN s < PP
    case neg =>
      have HC := Lib.hid (show ofC (toS (dyN s)) = 3 by rw [ofC_toS KL.out, if_neg hP])
      have HV := Lib.hid (show ofN (toS (dyN s)) = 0 by unfold ofN; rw [HC.out]; rfl)
      have HN := Lib.hid (show ¬ decOK s from fun h => hP h.2.1)
      clear hP
      refine wp_region_flowX (lookW [(0, pu (isS (s))), (5, pu (isV (.int .u8 (((b % 128 : Nat) : Int))))), (6, newS w3.heap.size 25 (cellsZ (List.replicate 16 0)).toArray), (23, pu (Tup (EV (0)) (.int .i64 (3)))), (24, pu (isS (s))), (25, pu (isS (s.extract 0 31))), (26, pu (isV (.int .u8 (((b % 128 : Nat) : Int))))), (27, sl1 (((b % 128 : Nat) : Int))), (28, pu (isS (strOfNums [((b % 128 : Nat) : Int)]))), (29, pu (isS (toS (dyN s)))), (30, pu (Tup (EV (0)) (.int .i64 (3)))), (31, pu (EV (0))), (32, pu (isV (.int .i64 (3))))]) (by kernel_rfl) 11 [9] (fun d _ _ _ _ h => by cases d <;> exact h) ?_ [0, 5] [24, 25, 26, 27, 28, 29, 30, 23, 31, 32, 6] [31, 32, 6] [(10, 6)] (by kernel_rfl) (by kernel_rfl) (by kernel_rfl) (by kernel_rfl) (by kernel_rfl) (by kernel_rfl) ⟨rfl, rfl, trivial⟩ ?_ ?_
      · intro l hl o ho
        simp only [List.mem_cons, List.not_mem_nil, or_false] at hl
        subst hl
        obtain rfl : _ = o := Option.some.inj ho
        change LateStep _ _ _ (Oper.mk _ _ _ _ _ _)
        exact fun ac w hE => ⟨.int .i64 (3), .inl ⟨rfl, fun w => by obtain ⟨u, hu, e⟩ := hE 23 (by kernel_rfl); have e' : ac.eval (.tmp 23) = .tuple #[u, .int .i64 (3)] := e; unfold execOp; simp only [e']; go_simp⟩, fun _ => dOfW.of 32 rfl rfl⟩
      · refine FStepsX.cons rfl (FStepW.plain rfl fun a w hS hE => OpTo.move rfl ⟨dOfW.of 24 rfl (hE 0 (by kernel_rfl)), Touch.refl _ _⟩) ?_
        refine FStepsX.cons rfl (FStepW.plain rfl fun a w hS hE => OpTo.pureG (v := .string (s.extract 0 31)) 25 rfl (by have h24 : a.eval (.tmp 24) = .string s := hE 24 (by kernel_rfl); have k31 := H31.out; unfold execOp; simp only [h24]; go_simp) rfl) ?_
        refine FStepsX.cons rfl (FStepW.plain rfl fun a w hS hE => OpTo.move rfl ⟨dOfW.of 26 rfl (hE 5 (by kernel_rfl)), Touch.refl _ _⟩) ?_
        refine FStepsX.cons rfl (FStepW.plain rfl fun a w hS hE => OpTo.one (((b % 128 : Nat) : Int)) rfl (hE 26 (by kernel_rfl)) (fun _ _ h => dOfW.of 27 rfl h)) ?_
        refine FStepsX.cons rfl (FStepW.plain rfl fun a w hS hE => OpTo.str1 (((b % 128 : Nat) : Int)) rfl (hE 27 (by kernel_rfl)) (dOfW.of 28 rfl rfl)) ?_
        refine FStepsX.cons rfl (FStepW.plain rfl fun a w hS hE => OpTo.addS (s.extract 0 31) (strOfNums [((b % 128 : Nat) : Int)]) rfl (hE 25 (by kernel_rfl)) (hE 28 (by kernel_rfl)) KS.out ⟨dOfW.of 29 rfl (by rw [KY.out]; rfl), Touch.refl _ _⟩) ?_
        refine FStepsX.cons rfl (FStepW.plain rfl fun a w hS hE => OpTo.call #[a.tmps.getD 29 undef] rfl Tryd.func36 (by kernel_rfl) (by kernel_rfl) (args1 ..) ((of_v (hE 29 (by kernel_rfl)) HV.out HC.out w).mono fun _ _ h => Gives.toW 30 rfl (fun _ _ h => h) h)) ?_
        refine FStepsX.cons rfl (FStepW.plain rfl fun a w hS hE => OpTo.move rfl ⟨dOfW.of 23 rfl (hE 30 (by kernel_rfl)), Touch.refl _ _⟩) ?_
        refine FStepsX.cons rfl (FStepW.plain rfl fun a w hS hE => OpTo.ext0 31 _ rfl rfl (hE 23 (by kernel_rfl)) (fun _ h => h)) ?_
        refine FStepsX.cons rfl (FStepW.plain rfl fun a w hS hE => OpTo.ext1 32 _ rfl rfl (hE 23 (by kernel_rfl)) rfl) ?_
        refine FStepsX.new 6 25 (cellsZ (List.replicate 16 0)).toArray rfl rfl (fun _ _ => exec_alloc_el rfl) rfl ?_
        exact FStepsX.nil
      intro f w4 hS hF hA
      obtain ⟨h31, h32, h6, -⟩ := hF
      obtain ⟨l31, e31, r31⟩ := EV.list (n := 0) (v := f 31) h31
      have R31 := Lib.hid r31
      clear r31 h31
      have e32 : f 32 = .int .i64 (3) := h32
      clear h32
      obtain ⟨g6, e6, z6, b6⟩ := h6
      have NE2_6 := Lib.hid (ne_new B2.out b6)
      clear hA
      replace B2 := Lib.hid (B2.out.touch hS notin_nil)
      have B6 := Lib.hid z6
      have HB6 := Lib.hid (Nat.le_trans HT.out.size b6)
      clear z6 b6
      replace HT := Lib.hid (HT.out.trans hS)
      clear hS
      simp only [setAll, List.setIfInBounds_toArray, List.set_cons_zero, List.set_cons_succ, e31, e32, e6]
      show wpList _ _ _ [_, _] _ _
      refine wpList_store_row rfl 25 (.tmp 6) (.tmp 31) rfl g6 (cellsZ l31).toArray rfl rfl 25 (cellsZ (List.replicate 16 0)).toArray B6.out (by rw [cellsZ_size, R31.out.1.len]; exact infoE) ((cellsZ_size _).trans (((List.length_replicate ..)).trans ((R31.out.1.len).symm.trans (cellsZ_size _).symm))) (cellsZ_one l31) ?_
      refine wpList_run (v := .int .i64 (3)) rfl (exec_assignV rfl rfl) ?_
      refine wpList_nil ?_
      simp only [Act.put, List.setIfInBounds_toArray, List.set_cons_zero, List.set_cons_succ]
      have B2' := (B2.out.frow NE2_6.out (cellsZ l31).toArray)
      have B6' := (B6.out.setRow (cellsZ l31).toArray)
      have HT' := (HT.out.setRowE (.inr HB6.out) (cellsZ l31).toArray)
      obtain ⟨w5, hw5⟩ : ∃ w5, w5 = (w4.setRow g6 (cellsZ l31).toArray) := ⟨_, rfl⟩
      rw [← hw5] at HT' B2' B6'
      rw [← hw5]
      clear hw5 HT B2 B6
      have B2 := Lib.hid B2'
      clear B2'
      have B6 := Lib.hid B6'
      clear B6'
      have HT := Lib.hid HT'
      clear HT'
      clear e31 e32 e6
      go_upto_region 5 with fail
      refine wp_region_list (wpList_flowP 2 (lookW [(7, pu (isV (.int .i64 (3)))), (33, pu (isV (.int .i64 (3)))), (34, pu (isB true))]) [7] [33, 34] [34] (by kernel_rfl) (by kernel_rfl) (by kernel_rfl) ⟨rfl, trivial⟩ ?_ ?_)
      · refine FStepsW.cons (FStepW.plain rfl fun a w hS hE => OpTo.move rfl ⟨dOfW.of 33 rfl (hE 7 (by kernel_rfl)), Touch.refl _ _⟩) ?_
        refine FStepsW.cons (FStepW.plain rfl fun a w hS hE => OpTo.neI (3) (0) rfl (hE 33 (by kernel_rfl)) rfl ⟨dOfW.of 34 rfl (by rw [(decide_eq_false (by decide) : decide ((3 : Int) = 0) = false)]; rfl), Touch.refl _ _⟩) ?_
        exact FStepsW.nil
      intro f w6 hS hF
      obtain ⟨h34, -⟩ := hF
      have e34 : f 34 = .bool true := h34
      clear h34
      replace B2 := Lib.hid (B2.out.touch hS notin_nil)
      replace B6 := Lib.hid (B6.out.touch hS notin_nil)
      replace HT := Lib.hid (HT.out.trans hS)
      clear hS
      simp only [setAll, List.setIfInBounds_toArray, List.set_cons_zero, List.set_cons_succ, e34]
      show wpList _ _ _ [] _ _
      refine wpList_nil ?_
      clear e34
      go_upto_region 6 with fail
      refine wp_region_list (wpList_flowP 1 (lookW [(35, pu (isV (ptV false zl)))]) [] [35] [35] (by kernel_rfl) (by kernel_rfl) (by kernel_rfl) trivial ?_ ?_)
      · refine FStepsW.cons (FStepW.plain rfl fun a w hS hE => OpTo.pureG (v := ptV false zl) 35 rfl (by unfold execOp; simp only [List.map_toArray, List.map_nil, Sem.run_bind, Sem.run_pure, run_build_pt0, Result.andThen_ok]) rfl) ?_
        exact FStepsW.nil
      intro f w7 hS hF
      obtain ⟨h35, -⟩ := hF
      have e35 : f 35 = ptV false zl := h35
      clear h35
      replace B2 := Lib.hid (B2.out.touch hS notin_nil)
      replace B6 := Lib.hid (B6.out.touch hS notin_nil)
      replace HT := Lib.hid (HT.out.trans hS)
      clear hS
      simp only [setAll, List.setIfInBounds_toArray, List.set_cons_zero, List.set_cons_succ, e35]
      show wpList _ _ _ [_, _] _ _
      refine wpList_store_row rfl 29 (.tmp 2) (.tmp 35) rfl g2 (ptA false zl) rfl rfl 29 (ptA false zl) B2.out (by rw [ptA_size zl_len]; exact infoP) ((ptA_size zl_len).trans (ptA_size zl_len).symm) (ptA_one false zl) ?_
      refine wpList_run (v := .int .i64 9) rfl (exec_assignV rfl rfl) ?_
      refine wpList_nil ?_
      simp only [Act.put, List.setIfInBounds_toArray, List.set_cons_zero, List.set_cons_succ]
      have B2' := (B2.out.setRow (ptA false zl))
      have B6' := (B6.out.frow (Ne.symm NE2_6.out) (ptA false zl))
      have HT' := (HT.out.setRowE (.inr HB2.out) (ptA false zl))
      obtain ⟨w8, hw8⟩ : ∃ w8, w8 = (w7.setRow g2 (ptA false zl)) := ⟨_, rfl⟩
      rw [← hw8] at HT' B2' B6'
      rw [← hw8]
      clear hw8 HT B2 B6
      have B2 := Lib.hid B2'
      clear B2'
      have B6 := Lib.hid B6'
      clear B6'
      have HT := Lib.hid HT'
      clear HT'
      clear e35
      go_wp2_with fail
      rw [decP_no HN.out, decC_no HN.out]
      exact dec_ret Tryd.results16 zl_len rfl rfl 29 B2.out HT.out PtV.none
    case pos =>
      have HC := Lib.hid (show ofC (toS (dyN s)) = 0 by rw [ofC_toS KL.out, if_pos hP])
      have HV := Lib.hid (show ofN (toS (dyN s)) = dyN s from ofN_toS hP)
      have HP := Lib.hid hP
      clear hP
      refine wp_region_flowX (lookW [(0, pu (isS (s))), (5, pu (isV (.int .u8 (((b % 128 : Nat) : Int))))), (6, newS w3.heap.size 25 (cellsZ (List.replicate 16 0)).toArray), (23, pu (Tup (EV (dyN s)) (.int .i64 (0)))), (24, pu (isS (s))), (25, pu (isS (s.extract 0 31))), (26, pu (isV (.int .u8 (((b % 128 : Nat) : Int))))), (27, sl1 (((b % 128 : Nat) : Int))), (28, pu (isS (strOfNums [((b % 128 : Nat) : Int)]))), (29, pu (isS (toS (dyN s)))), (30, pu (Tup (EV (dyN s)) (.int .i64 (0)))), (31, pu (EV (dyN s))), (32, pu (isV (.int .i64 (0))))]) (by kernel_rfl) 11 [9] (fun d _ _ _ _ h => by cases d <;> exact h) ?_ [0, 5] [24, 25, 26, 27, 28, 29, 30, 23, 31, 32, 6] [31, 32, 6] [(10, 6)] (by kernel_rfl) (by kernel_rfl) (by kernel_rfl) (by kernel_rfl) (by kernel_rfl) (by kernel_rfl) ⟨rfl, rfl, trivial⟩ ?_ ?_
      · intro l hl o ho
        simp only [List.mem_cons, List.not_mem_nil, or_false] at hl
        subst hl
        obtain rfl : _ = o := Option.some.inj ho
        change LateStep _ _ _ (Oper.mk _ _ _ _ _ _)
        exact fun ac w hE => ⟨.int .i64 (0), .inl ⟨rfl, fun w => by obtain ⟨u, hu, e⟩ := hE 23 (by kernel_rfl); have e' : ac.eval (.tmp 23) = .tuple #[u, .int .i64 (0)] := e; unfold execOp; simp only [e']; go_simp⟩, fun _ => dOfW.of 32 rfl rfl⟩
      · refine FStepsX.cons rfl (FStepW.plain rfl fun a w hS hE => OpTo.move rfl ⟨dOfW.of 24 rfl (hE 0 (by kernel_rfl)), Touch.refl _ _⟩) ?_
        refine FStepsX.cons rfl (FStepW.plain rfl fun a w hS hE => OpTo.pureG (v := .string (s.extract 0 31)) 25 rfl (by have h24 : a.eval (.tmp 24) = .string s := hE 24 (by kernel_rfl); have k31 := H31.out; unfold execOp; simp only [h24]; go_simp) rfl) ?_
        refine FStepsX.cons rfl (FStepW.plain rfl fun a w hS hE => OpTo.move rfl ⟨dOfW.of 26 rfl (hE 5 (by kernel_rfl)), Touch.refl _ _⟩) ?_
        refine FStepsX.cons rfl (FStepW.plain rfl fun a w hS hE => OpTo.one (((b % 128 : Nat) : Int)) rfl (hE 26 (by kernel_rfl)) (fun _ _ h => dOfW.of 27 rfl h)) ?_
        refine FStepsX.cons rfl (FStepW.plain rfl fun a w hS hE => OpTo.str1 (((b % 128 : Nat) : Int)) rfl (hE 27 (by kernel_rfl)) (dOfW.of 28 rfl rfl)) ?_
        refine FStepsX.cons rfl (FStepW.plain rfl fun a w hS hE => OpTo.addS (s.extract 0 31) (strOfNums [((b % 128 : Nat) : Int)]) rfl (hE 25 (by kernel_rfl)) (hE 28 (by kernel_rfl)) KS.out ⟨dOfW.of 29 rfl (by rw [KY.out]; rfl), Touch.refl _ _⟩) ?_
        refine FStepsX.cons rfl (FStepW.plain rfl fun a w hS hE => OpTo.call #[a.tmps.getD 29 undef] rfl Tryd.func36 (by kernel_rfl) (by kernel_rfl) (args1 ..) ((of_v (hE 29 (by kernel_rfl)) HV.out HC.out w).mono fun _ _ h => Gives.toW 30 rfl (fun _ _ h => h) h)) ?_
        refine FStepsX.cons rfl (FStepW.plain rfl fun a w hS hE => OpTo.move rfl ⟨dOfW.of 23 rfl (hE 30 (by kernel_rfl)), Touch.refl _ _⟩) ?_
        refine FStepsX.cons rfl (FStepW.plain rfl fun a w hS hE => OpTo.ext0 31 _ rfl rfl (hE 23 (by kernel_rfl)) (fun _ h => h)) ?_
        refine FStepsX.cons rfl (FStepW.plain rfl fun a w hS hE => OpTo.ext1 32 _ rfl rfl (hE 23 (by kernel_rfl)) rfl) ?_
        refine FStepsX.new 6 25 (cellsZ (List.replicate 16 0)).toArray rfl rfl (fun _ _ => exec_alloc_el rfl) rfl ?_
        exact FStepsX.nil
      intro f w4 hS hF hA
      obtain ⟨h31, h32, h6, -⟩ := hF
      obtain ⟨l31, e31, r31⟩ := EV.list (n := dyN s) (v := f 31) h31
      have R31 := Lib.hid r31
      clear r31 h31
      have e32 : f 32 = .int .i64 (0) := h32
      clear h32
      obtain ⟨g6, e6, z6, b6⟩ := h6
      have NE2_6 := Lib.hid (ne_new B2.out b6)
      clear hA
      replace B2 := Lib.hid (B2.out.touch hS notin_nil)
      have B6 := Lib.hid z6
      have HB6 := Lib.hid (Nat.le_trans HT.out.size b6)
      clear z6 b6
      replace HT := Lib.hid (HT.out.trans hS)
      clear hS
      simp only [setAll, List.setIfInBounds_toArray, List.set_cons_zero, List.set_cons_succ, e31, e32, e6]
      show wpList _ _ _ [_, _] _ _
      refine wpList_store_row rfl 25 (.tmp 6) (.tmp 31) rfl g6 (cellsZ l31).toArray rfl rfl 25 (cellsZ (List.replicate 16 0)).toArray B6.out (by rw [cellsZ_size, R31.out.1.len]; exact infoE) ((cellsZ_size _).trans (((List.length_replicate ..)).trans ((R31.out.1.len).symm.trans (cellsZ_size _).symm))) (cellsZ_one l31) ?_
      refine wpList_run (v := .int .i64 (0)) rfl (exec_assignV rfl rfl) ?_
      refine wpList_nil ?_
      simp only [Act.put, List.setIfInBounds_toArray, List.set_cons_zero, List.set_cons_succ]
      have B2' := (B2.out.frow NE2_6.out (cellsZ l31).toArray)
      have B6' := (B6.out.setRow (cellsZ l31).toArray)
      have HT' := (HT.out.setRowE (.inr HB6.out) (cellsZ l31).toArray)
      obtain ⟨w5, hw5⟩ : ∃ w5, w5 = (w4.setRow g6 (cellsZ l31).toArray) := ⟨_, rfl⟩
      rw [← hw5] at HT' B2' B6'
      rw [← hw5]
      clear hw5 HT B2 B6
      have B2 := Lib.hid B2'
      clear B2'
      have B6 := Lib.hid B6'
      clear B6'
      have HT := Lib.hid HT'
      clear HT'
      clear e31 e32 e6
      go_upto_region 5 with fail
      refine wp_region_list (wpList_flowP 2 (lookW [(7, pu (isV (.int .i64 (0)))), (33, pu (isV (.int .i64 (0)))), (34, pu (isB false))]) [7] [33, 34] [34] (by kernel_rfl) (by kernel_rfl) (by kernel_rfl) ⟨rfl, trivial⟩ ?_ ?_)
      · refine FStepsW.cons (FStepW.plain rfl fun a w hS hE => OpTo.move rfl ⟨dOfW.of 33 rfl (hE 7 (by kernel_rfl)), Touch.refl _ _⟩) ?_
        refine FStepsW.cons (FStepW.plain rfl fun a w hS hE => OpTo.neI (0) (0) rfl (hE 33 (by kernel_rfl)) rfl ⟨dOfW.of 34 rfl (by rw [(decide_eq_true (by decide) : decide ((0 : Int) = 0) = true)]; rfl), Touch.refl _ _⟩) ?_
        exact FStepsW.nil
      intro f w6 hS hF
      obtain ⟨h34, -⟩ := hF
      have e34 : f 34 = .bool false := h34
      clear h34
      replace B2 := Lib.hid (B2.out.touch hS notin_nil)
      replace B6 := Lib.hid (B6.out.touch hS notin_nil)
      replace HT := Lib.hid (HT.out.trans hS)
      clear hS
      simp only [setAll, List.setIfInBounds_toArray, List.set_cons_zero, List.set_cons_succ, e34]
      show wpList _ _ _ [] _ _
      refine wpList_nil ?_
      clear e34
      go_upto_region 7 with fail
      refine wp_region_flowX (lookW [(6, pu (isP (g6))), (8, newS w6.heap.size 25 (cellsZ (List.replicate 16 0)).toArray), (9, newS w6.heap.size 25 (cellsZ (List.replicate 16 0)).toArray), (36, pu (EV (1))), (37, pu (EV (dyN s))), (38, pu (EV (dyN s))), (39, pu (EV (mulF (dyN s) (dyN s))))]) (by kernel_rfl) 6 [] (fun d _ _ _ _ h => by cases d <;> exact h) (by intro l hl; cases hl) [6] [36, 37, 38, 39, 8, 9] [36, 39, 8, 9] [(4, 8), (5, 9)] (by kernel_rfl) (by kernel_rfl) (by kernel_rfl) (by kernel_rfl) (by kernel_rfl) (by kernel_rfl) ⟨rfl, trivial⟩ ?_ ?_
      · refine FStepsX.cons rfl (FStepW.plain rfl fun a w hS hE => OpTo.call #[.int .u64 1] rfl Tryd.func37 (by kernel_rfl) (by kernel_rfl) (args1 ..) ((num_v 1 (by omega) w).mono fun _ _ h => Gives.toW 36 rfl (fun _ _ h => h) h)) ?_
        refine FStepsX.cons rfl (FStepW.plain rfl fun a w hS hE => OpTo.rdE 37 (.tmp 6) rfl rfl (g6) 0 (hE 6 (by kernel_rfl)) ((fun W hW => RdE.el (B6.out.touch hW notin_nil) R31.out.1 R31.out.2) w hS) (fun _ h => h)) ?_
        refine FStepsX.cons rfl (FStepW.plain rfl fun a w hS hE => OpTo.rdE 38 (.tmp 6) rfl rfl (g6) 0 (hE 6 (by kernel_rfl)) ((fun W hW => RdE.el (B6.out.touch hW notin_nil) R31.out.1 R31.out.2) w hS) (fun _ h => h)) ?_
        refine FStepsX.cons rfl (FStepW.plain rfl fun a w hS hE => OpTo.call #[a.tmps.getD 37 undef, a.tmps.getD 38 undef] rfl Tryd.func23 (by kernel_rfl) (by kernel_rfl) (args2 ..) ((mul_v (hE 37 (by kernel_rfl)) (hE 38 (by kernel_rfl)) w).mono fun _ _ h => Gives.toW 39 rfl (fun _ _ h => h) h)) ?_
        refine FStepsX.new 8 25 (cellsZ (List.replicate 16 0)).toArray rfl rfl (fun _ _ => exec_alloc_el rfl) rfl ?_
        refine FStepsX.new 9 25 (cellsZ (List.replicate 16 0)).toArray rfl rfl (fun _ _ => exec_alloc_el rfl) rfl ?_
        exact FStepsX.nil
      intro f w7 hS hF hA
      obtain ⟨h36, h39, h8, h9, -⟩ := hF
      obtain ⟨l36, e36, r36⟩ := EV.list (n := 1) (v := f 36) h36
      have R36 := Lib.hid r36
      clear r36 h36
      obtain ⟨l39, e39, r39⟩ := EV.list (n := mulF (dyN s) (dyN s)) (v := f 39) h39
      have R39 := Lib.hid r39
      clear r39 h39
      obtain ⟨g8, e8, z8, b8⟩ := h8
      obtain ⟨g9, e9, z9, b9⟩ := h9
      have ne8_9 : g8 ≠ g9 := fun e => hA (4, 8) (by simp) (5, 9) (by simp) (by decide) (by rw [e8, e9, e])
      have NE8_9 := Lib.hid ne8_9
      clear ne8_9
      have NE2_8 := Lib.hid (ne_new B2.out b8)
      have NE6_8 := Lib.hid (ne_new B6.out b8)
      have NE2_9 := Lib.hid (ne_new B2.out b9)
      have NE6_9 := Lib.hid (ne_new B6.out b9)
      clear hA
      replace B2 := Lib.hid (B2.out.touch hS notin_nil)
      replace B6 := Lib.hid (B6.out.touch hS notin_nil)
      have B8 := Lib.hid z8
      have HB8 := Lib.hid (Nat.le_trans HT.out.size b8)
      clear z8 b8
      have B9 := Lib.hid z9
      have HB9 := Lib.hid (Nat.le_trans HT.out.size b9)
      clear z9 b9
      replace HT := Lib.hid (HT.out.trans hS)
      clear hS
      simp only [setAll, List.setIfInBounds_toArray, List.set_cons_zero, List.set_cons_succ, e36, e39, e8, e9]
      show wpList _ _ _ [_, _] _ _
      refine wpList_store_row rfl 25 (.tmp 8) (.tmp 36) rfl g8 (cellsZ l36).toArray rfl rfl 25 (cellsZ (List.replicate 16 0)).toArray B8.out (by rw [cellsZ_size, R36.out.1.len]; exact infoE) ((cellsZ_size _).trans (((List.length_replicate ..)).trans ((R36.out.1.len).symm.trans (cellsZ_size _).symm))) (cellsZ_one l36) ?_
      refine wpList_store_row rfl 25 (.tmp 9) (.tmp 39) rfl g9 (cellsZ l39).toArray rfl rfl 25 (cellsZ (List.replicate 16 0)).toArray (B9.out.frow (Ne.symm NE8_9.out) (cellsZ l36).toArray) (by rw [cellsZ_size, R39.out.1.len]; exact infoE) ((cellsZ_size _).trans (((List.length_replicate ..)).trans ((R39.out.1.len).symm.trans (cellsZ_size _).symm))) (cellsZ_one l39) ?_
      refine wpList_nil ?_
      simp only [Act.put]
      have B2' := ((B2.out.frow NE2_8.out (cellsZ l36).toArray).frow NE2_9.out (cellsZ l39).toArray)
      have B6' := ((B6.out.frow NE6_8.out (cellsZ l36).toArray).frow NE6_9.out (cellsZ l39).toArray)
      have B8' := ((B8.out.setRow (cellsZ l36).toArray).frow NE8_9.out (cellsZ l39).toArray)
      have B9' := ((B9.out.frow (Ne.symm NE8_9.out) (cellsZ l36).toArray).setRow (cellsZ l39).toArray)
      have HT' := ((HT.out.setRowE (.inr HB8.out) (cellsZ l36).toArray).setRowE (.inr HB9.out) (cellsZ l39).toArray)
      obtain ⟨w8, hw8⟩ : ∃ w8, w8 = ((w7.setRow g8 (cellsZ l36).toArray).setRow g9 (cellsZ l39).toArray) := ⟨_, rfl⟩
      rw [← hw8] at HT' B2' B6' B8' B9'
      rw [← hw8]
      clear hw8 HT B2 B6 B8 B9
      have B2 := Lib.hid B2'
      clear B2'
      have B6 := Lib.hid B6'
      clear B6'
      have B8 := Lib.hid B8'
      clear B8'
      have B9 := Lib.hid B9'
      clear B9'
      have HT := Lib.hid HT'
      clear HT'
      clear e36 e39 e8 e9
      go_upto_region 8 with fail
      refine wp_region_flowX (lookW [(8, pu (isP (g8))), (9, pu (isP (g9))), (10, newS w8.heap.size 25 (cellsZ (List.replicate 16 0)).toArray), (40, pu (Tup (EV (rootN (argN (dyN s)))) (.bool (isN (argN (dyN s)))))), (41, pu (EV (mulF (dyN s) (dyN s)))), (42, pu (EV (1))), (43, pu (EV (subF (mulF (dyN s) (dyN s)) (1)))), (44, pu (EV (DN))), (45, pu (EV (mulF (dyN s) (dyN s)))), (46, pu (EV (mulF (DN) (mulF (dyN s) (dyN s))))), (47, pu (EV (1))), (48, pu (EV (addF (mulF (DN) (mulF (dyN s) (dyN s))) (1)))), (49, pu (EV (invF (addF (mulF (DN) (mulF (dyN s) (dyN s))) (1))))), (50, pu (EV (mulF (subF (mulF (dyN s) (dyN s)) (1)) (invF (addF (mulF (DN) (mulF (dyN s) (dyN s))) (1)))))), (51, pu (Tup (EV (rootN (argN (dyN s)))) (.bool (isN (argN (dyN s)))))), (52, pu (EV (rootN (argN (dyN s))))), (53, pu (isB (isN (argN (dyN s)))))]) (by kernel_rfl) 15 [13] (fun d _ _ _ _ h => by cases d <;> exact h) ?_ [8, 9] [41, 42, 43, 44, 45, 46, 47, 48, 49, 50, 51, 40, 52, 53, 10] [52, 53, 10] [(14, 10)] (by kernel_rfl) (by kernel_rfl) (by kernel_rfl) (by kernel_rfl) (by kernel_rfl) (by kernel_rfl) ⟨rfl, rfl, trivial⟩ ?_ ?_
      · intro l hl o ho
        simp only [List.mem_cons, List.not_mem_nil, or_false] at hl
        subst hl
        obtain rfl : _ = o := Option.some.inj ho
        change LateStep _ _ _ (Oper.mk _ _ _ _ _ _)
        exact fun ac w hE => ⟨.bool (isN (argN (dyN s))), .inl ⟨rfl, fun w => by obtain ⟨u, hu, e⟩ := hE 40 (by kernel_rfl); have e' : ac.eval (.tmp 40) = .tuple #[u, .bool (isN (argN (dyN s)))] := e; unfold execOp; simp only [e']; go_simp⟩, fun _ => dOfW.of 53 rfl rfl⟩
      · refine FStepsX.cons rfl (FStepW.plain rfl fun a w hS hE => OpTo.rdE 41 (.tmp 9) rfl rfl (g9) 0 (hE 9 (by kernel_rfl)) ((fun W hW => RdE.el (B9.out.touch hW notin_nil) R39.out.1 R39.out.2) w hS) (fun _ h => h)) ?_
        refine FStepsX.cons rfl (FStepW.plain rfl fun a w hS hE => OpTo.rdE 42 (.tmp 8) rfl rfl (g8) 0 (hE 8 (by kernel_rfl)) ((fun W hW => RdE.el (B8.out.touch hW notin_nil) R36.out.1 R36.out.2) w hS) (fun _ h => h)) ?_
        refine FStepsX.cons rfl (FStepW.plain rfl fun a w hS hE => OpTo.call #[a.tmps.getD 41 undef, a.tmps.getD 42 undef] rfl Tryd.func25 (by kernel_rfl) (by kernel_rfl) (args2 ..) ((sub_v (hE 41 (by kernel_rfl)) (hE 42 (by kernel_rfl)) w).mono fun _ _ h => Gives.toW 43 rfl (fun _ _ h => h) h)) ?_
        refine FStepsX.cons rfl (FStepW.plain rfl fun a w hS hE => OpTo.call #[.string ⟨#[163, 120, 89, 19, 202, 77, 235, 117, 171, 216, 65, 65, 77, 10, 112, 0, 152, 232, 121, 119, 121, 64, 199, 140, 115, 254, 111, 43, 238, 108, 3, 82]⟩] rfl Tryd.func27 (by kernel_rfl) (by kernel_rfl) (args1 ..) ((cut_d w).mono fun _ _ h => Gives.toW 44 rfl (fun _ _ h => h) h)) ?_
        refine FStepsX.cons rfl (FStepW.plain rfl fun a w hS hE => OpTo.rdE 45 (.tmp 9) rfl rfl (g9) 0 (hE 9 (by kernel_rfl)) ((fun W hW => RdE.el (B9.out.touch hW notin_nil) R39.out.1 R39.out.2) w hS) (fun _ h => h)) ?_
        refine FStepsX.cons rfl (FStepW.plain rfl fun a w hS hE => OpTo.call #[a.tmps.getD 44 undef, a.tmps.getD 45 undef] rfl Tryd.func23 (by kernel_rfl) (by kernel_rfl) (args2 ..) ((mul_v (hE 44 (by kernel_rfl)) (hE 45 (by kernel_rfl)) w).mono fun _ _ h => Gives.toW 46 rfl (fun _ _ h => h) h)) ?_
        refine FStepsX.cons rfl (FStepW.plain rfl fun a w hS hE => OpTo.rdE 47 (.tmp 8) rfl rfl (g8) 0 (hE 8 (by kernel_rfl)) ((fun W hW => RdE.el (B8.out.touch hW notin_nil) R36.out.1 R36.out.2) w hS) (fun _ h => h)) ?_
        refine FStepsX.cons rfl (FStepW.plain rfl fun a w hS hE => OpTo.call #[a.tmps.getD 46 undef, a.tmps.getD 47 undef] rfl Tryd.func26 (by kernel_rfl) (by kernel_rfl) (args2 ..) ((add_v (hE 46 (by kernel_rfl)) (hE 47 (by kernel_rfl)) w).mono fun _ _ h => Gives.toW 48 rfl (fun _ _ h => h) h)) ?_
        refine FStepsX.cons rfl (FStepW.plain rfl fun a w hS hE => OpTo.call #[a.tmps.getD 48 undef] rfl Tryd.func38 (by kernel_rfl) (by kernel_rfl) (args1 ..) ((inv_v (hE 48 (by kernel_rfl)) w).mono fun _ _ h => Gives.toW 49 rfl (fun _ _ h => h) h)) ?_
        refine FStepsX.cons rfl (FStepW.plain rfl fun a w hS hE => OpTo.call #[a.tmps.getD 43 undef, a.tmps.getD 49 undef] rfl Tryd.func23 (by kernel_rfl) (by kernel_rfl) (args2 ..) ((mul_v (hE 43 (by kernel_rfl)) (hE 49 (by kernel_rfl)) w).mono fun _ _ h => Gives.toW 50 rfl (fun _ _ h => h) h)) ?_
        refine FStepsX.cons rfl (FStepW.plain rfl fun a w hS hE => OpTo.call #[a.tmps.getD 50 undef] rfl Tryd.func39 (by kernel_rfl) (by kernel_rfl) (args1 ..) ((root_v (hE 50 (by kernel_rfl)) w).mono fun _ _ h => Gives.toW 51 rfl (fun _ _ h => h) h)) ?_
        refine FStepsX.cons rfl (FStepW.plain rfl fun a w hS hE => OpTo.move rfl ⟨dOfW.of 40 rfl (hE 51 (by kernel_rfl)), Touch.refl _ _⟩) ?_
        refine FStepsX.cons rfl (FStepW.plain rfl fun a w hS hE => OpTo.ext0 52 _ rfl rfl (hE 40 (by kernel_rfl)) (fun _ h => h)) ?_
        refine FStepsX.cons rfl (FStepW.plain rfl fun a w hS hE => OpTo.ext1 53 _ rfl rfl (hE 40 (by kernel_rfl)) rfl) ?_
        refine FStepsX.new 10 25 (cellsZ (List.replicate 16 0)).toArray rfl rfl (fun _ _ => exec_alloc_el rfl) rfl ?_
        exact FStepsX.nil
      intro f w9 hS hF hA
      obtain ⟨h52, h53, h10, -⟩ := hF
      obtain ⟨l52, e52, r52⟩ := EV.list (n := rootN (argN (dyN s))) (v := f 52) h52
      have R52 := Lib.hid r52
      clear r52 h52
      have e53 : f 53 = .bool (isN (argN (dyN s))) := h53
      clear h53
      obtain ⟨g10, e10, z10, b10⟩ := h10
      have NE2_10 := Lib.hid (ne_new B2.out b10)
      have NE6_10 := Lib.hid (ne_new B6.out b10)
      have NE8_10 := Lib.hid (ne_new B8.out b10)
      have NE9_10 := Lib.hid (ne_new B9.out b10)
      clear hA
      replace B2 := Lib.hid (B2.out.touch hS notin_nil)
      replace B6 := Lib.hid (B6.out.touch hS notin_nil)
      replace B8 := Lib.hid (B8.out.touch hS notin_nil)
      replace B9 := Lib.hid (B9.out.touch hS notin_nil)
      have B10 := Lib.hid z10
      have HB10 := Lib.hid (Nat.le_trans HT.out.size b10)
      clear z10 b10
      replace HT := Lib.hid (HT.out.trans hS)
      clear hS
      simp only [setAll, List.setIfInBounds_toArray, List.set_cons_zero, List.set_cons_succ, e52, e53, e10]
      show wpList _ _ _ [_, _] _ _
      refine wpList_store_row rfl 25 (.tmp 10) (.tmp 52) rfl g10 (cellsZ l52).toArray rfl rfl 25 (cellsZ (List.replicate 16 0)).toArray B10.out (by rw [cellsZ_size, R52.out.1.len]; exact infoE) ((cellsZ_size _).trans (((List.length_replicate ..)).trans ((R52.out.1.len).symm.trans (cellsZ_size _).symm))) (cellsZ_one l52) ?_
      refine wpList_run (v := .bool (isN (argN (dyN s)))) rfl (exec_assignV rfl rfl) ?_
      refine wpList_nil ?_
      simp only [Act.put, List.setIfInBounds_toArray, List.set_cons_zero, List.set_cons_succ]
      have B2' := (B2.out.frow NE2_10.out (cellsZ l52).toArray)
      have B6' := (B6.out.frow NE6_10.out (cellsZ l52).toArray)
      have B8' := (B8.out.frow NE8_10.out (cellsZ l52).toArray)
      have B9' := (B9.out.frow NE9_10.out (cellsZ l52).toArray)
      have B10' := (B10.out.setRow (cellsZ l52).toArray)
      have HT' := (HT.out.setRowE (.inr HB10.out) (cellsZ l52).toArray)
      obtain ⟨w10, hw10⟩ : ∃ w10, w10 = (w9.setRow g10 (cellsZ l52).toArray) := ⟨_, rfl⟩
      rw [← hw10] at HT' B2' B6' B8' B9' B10'
      rw [← hw10]
      clear hw10 HT B2 B6 B8 B9 B10
      have B2 := Lib.hid B2'
      clear B2'
      have B6 := Lib.hid B6'
      clear B6'
      have B8 := Lib.hid B8'
      clear B8'
      have B9 := Lib.hid B9'
      clear B9'
      have B10 := Lib.hid B10'
      clear B10'
      have HT := Lib.hid HT'
      clear HT'
      clear e52 e53 e10
      go_upto_region 9 with fail
      by_cases hi : isN (argN (dyN s)) = true
      case neg =>
        have hf : isN (argN (dyN s)) = false := by simpa using hi
        have HN := Lib.hid (show ¬ decOK s from fun h => hi h.2.2.1)
        simp only [hf]
        clear hi hf
        refine wp_region_list (wpList_flowP 9 (lookW [(4, pu (isB (oddS s))), (10, pu (isP (g10))), (11, pu (isB false)), (54, pu (isB false)), (55, pu (isB true)), (56, pu (isB true)), (57, pu (isU)), (58, pu (isU)), (59, pu (isU)), (60, pu (isU)), (61, pu (isU)), (62, pu (isB true))]) [4, 10, 11] [54, 55, 56, 57, 58, 59, 60, 61, 62] [62] (by kernel_rfl) (by kernel_rfl) (by kernel_rfl) ⟨rfl, rfl, rfl, trivial⟩ ?_ ?_)
        · refine FStepsW.cons (FStepW.plain rfl fun a w hS hE => OpTo.move rfl ⟨dOfW.of 54 rfl (hE 11 (by kernel_rfl)), Touch.refl _ _⟩) ?_
          refine FStepsW.cons (FStepW.plain rfl fun a w hS hE => OpTo.not false rfl (hE 54 (by kernel_rfl)) ⟨dOfW.of 55 rfl (Eq.refl (Value.bool true)), Touch.refl _ _⟩) ?_
          refine FStepsW.cons (FStepW.plain rfl fun a w hS hE => OpTo.move rfl ⟨dOfW.of 56 rfl (hE 55 (by kernel_rfl)), Touch.refl _ _⟩) ?_
          refine FStepsW.cons (FStepW.no 56 rfl rfl (fun _ _ h => h) (fun _ => dOfW.of 57 rfl rfl)) ?_
          refine FStepsW.cons (FStepW.no 56 rfl rfl (fun _ _ h => h) (fun _ => dOfW.of 58 rfl rfl)) ?_
          refine FStepsW.cons (FStepW.noU 58 rfl rfl (fun _ _ h => h) (fun _ => dOfW.of 59 rfl rfl)) ?_
          refine FStepsW.cons (FStepW.noU 58 rfl rfl (fun _ _ h => h) (fun _ => dOfW.of 60 rfl rfl)) ?_
          refine FStepsW.cons (FStepW.no 56 rfl rfl (fun _ _ h => h) (fun _ => dOfW.of 61 rfl rfl)) ?_
          refine FStepsW.cons (FStepW.plain rfl fun a w hS hE => OpTo.pick true rfl (hE 56 (by kernel_rfl)) ⟨dOfW.of 62 rfl (Eq.refl (Value.bool true)), Touch.refl _ _⟩) ?_
          exact FStepsW.nil
        intro f w11 hS hF
        obtain ⟨h62, -⟩ := hF
        have e62 : f 62 = .bool true := h62
        clear h62
        replace B2 := Lib.hid (B2.out.touch hS notin_nil)
        replace B6 := Lib.hid (B6.out.touch hS notin_nil)
        replace B8 := Lib.hid (B8.out.touch hS notin_nil)
        replace B9 := Lib.hid (B9.out.touch hS notin_nil)
        replace B10 := Lib.hid (B10.out.touch hS notin_nil)
        replace HT := Lib.hid (HT.out.trans hS)
        clear hS
        simp only [setAll, List.setIfInBounds_toArray, List.set_cons_zero, List.set_cons_succ, e62]
        show wpList _ _ _ [] _ _
        refine wpList_nil ?_
        clear e62
        go_upto_region 10 with fail
        refine wp_region_list (wpList_flowP 1 (lookW [(63, pu (isV (ptV false zl)))]) [] [63] [63] (by kernel_rfl) (by kernel_rfl) (by kernel_rfl) trivial ?_ ?_)
        · refine FStepsW.cons (FStepW.plain rfl fun a w hS hE => OpTo.pureG (v := ptV false zl) 63 rfl (by unfold execOp; simp only [List.map_toArray, List.map_nil, Sem.run_bind, Sem.run_pure, run_build_pt0, Result.andThen_ok]) rfl) ?_
          exact FStepsW.nil
        intro f w12 hS hF
        obtain ⟨h63, -⟩ := hF
        have e63 : f 63 = ptV false zl := h63
        clear h63
        replace B2 := Lib.hid (B2.out.touch hS notin_nil)
        replace B6 := Lib.hid (B6.out.touch hS notin_nil)
        replace B8 := Lib.hid (B8.out.touch hS notin_nil)
        replace B9 := Lib.hid (B9.out.touch hS notin_nil)
        replace B10 := Lib.hid (B10.out.touch hS notin_nil)
        replace HT := Lib.hid (HT.out.trans hS)
        clear hS
        simp only [setAll, List.setIfInBounds_toArray, List.set_cons_zero, List.set_cons_succ, e63]
        show wpList _ _ _ [_, _] _ _
        refine wpList_store_row rfl 29 (.tmp 2) (.tmp 63) rfl g2 (ptA false zl) rfl rfl 29 (ptA false zl) B2.out (by rw [ptA_size zl_len]; exact infoP) ((ptA_size zl_len).trans (ptA_size zl_len).symm) (ptA_one false zl) ?_
        refine wpList_run (v := .int .i64 9) rfl (exec_assignV rfl rfl) ?_
        refine wpList_nil ?_
        simp only [Act.put, List.setIfInBounds_toArray, List.set_cons_zero, List.set_cons_succ]
        have B2' := (B2.out.setRow (ptA false zl))
        have B6' := (B6.out.frow (Ne.symm NE2_6.out) (ptA false zl))
        have B8' := (B8.out.frow (Ne.symm NE2_8.out) (ptA false zl))
        have B9' := (B9.out.frow (Ne.symm NE2_9.out) (ptA false zl))
        have B10' := (B10.out.frow (Ne.symm NE2_10.out) (ptA false zl))
        have HT' := (HT.out.setRowE (.inr HB2.out) (ptA false zl))
        obtain ⟨w13, hw13⟩ : ∃ w13, w13 = (w12.setRow g2 (ptA false zl)) := ⟨_, rfl⟩
        rw [← hw13] at HT' B2' B6' B8' B9' B10'
        rw [← hw13]
        clear hw13 HT B2 B6 B8 B9 B10
        have B2 := Lib.hid B2'
        clear B2'
        have B6 := Lib.hid B6'
        clear B6'
        have B8 := Lib.hid B8'
        clear B8'
        have B9 := Lib.hid B9'
        clear B9'
        have B10 := Lib.hid B10'
        clear B10'
        have HT := Lib.hid HT'
        clear HT'
        clear e63
        go_wp2_with fail
        rw [decP_no HN.out, decC_no HN.out]
        exact dec_ret Tryd.results16 zl_len rfl rfl 29 B2.out HT.out PtV.none
      case pos =>
        have HI := Lib.hid hi
        simp only [hi]
        clear hi
        by_cases ho : oddS s = true
        case neg =>
          have hf : oddS s = false := by simpa using ho
          have HOK := Lib.hid (show decOK s from ⟨H32.out, HP.out, HI.out, fun h => ho h.1⟩)
          have HX := Lib.hid (show decX s = rootN (argN (dyN s)) by unfold decX; rw [hf, if_neg (by decide)])
          simp only [hf]
          clear ho hf
          refine wp_region_list (wpList_flowP 9 (lookW [(4, pu (isB false)), (10, pu (isP (g10))), (11, pu (isB true)), (54, pu (isB true)), (55, pu (isB false)), (56, pu (isB false)), (57, pu (isB false)), (58, pu (isB false)), (59, pu (isU)), (60, pu (isU)), (61, pu (isB false)), (62, pu (isB false))]) [4, 10, 11] [54, 55, 56, 57, 58, 59, 60, 61, 62] [62] (by kernel_rfl) (by kernel_rfl) (by kernel_rfl) ⟨rfl, rfl, rfl, trivial⟩ ?_ ?_)
          · refine FStepsW.cons (FStepW.plain rfl fun a w hS hE => OpTo.move rfl ⟨dOfW.of 54 rfl (hE 11 (by kernel_rfl)), Touch.refl _ _⟩) ?_
            refine FStepsW.cons (FStepW.plain rfl fun a w hS hE => OpTo.not true rfl (hE 54 (by kernel_rfl)) ⟨dOfW.of 55 rfl (Eq.refl (Value.bool false)), Touch.refl _ _⟩) ?_
            refine FStepsW.cons (FStepW.plain rfl fun a w hS hE => OpTo.move rfl ⟨dOfW.of 56 rfl (hE 55 (by kernel_rfl)), Touch.refl _ _⟩) ?_
            refine FStepsW.cons (FStepW.go 56 rfl rfl (fun _ _ h => h) fun a w hS hE => OpTo.move rfl ⟨dOfW.of 57 rfl (hE 4 (by kernel_rfl)), Touch.refl _ _⟩) ?_
            refine FStepsW.cons (FStepW.go 56 rfl rfl (fun _ _ h => h) fun a w hS hE => OpTo.move rfl ⟨dOfW.of 58 rfl (hE 57 (by kernel_rfl)), Touch.refl _ _⟩) ?_
            refine FStepsW.cons (FStepW.no 58 rfl rfl (fun _ _ h => h) (fun _ => dOfW.of 59 rfl rfl)) ?_
            refine FStepsW.cons (FStepW.no 58 rfl rfl (fun _ _ h => h) (fun _ => dOfW.of 60 rfl rfl)) ?_
            refine FStepsW.cons (FStepW.go 56 rfl rfl (fun _ _ h => h) fun a w hS hE => OpTo.pick false rfl (hE 58 (by kernel_rfl)) ⟨dOfW.of 61 rfl (Eq.refl (Value.bool false)), Touch.refl _ _⟩) ?_
            refine FStepsW.cons (FStepW.plain rfl fun a w hS hE => OpTo.pick false rfl (hE 56 (by kernel_rfl)) ⟨dOfW.of 62 rfl (hE 61 (by kernel_rfl)), Touch.refl _ _⟩) ?_
            exact FStepsW.nil
          intro f w11 hS hF
          obtain ⟨h62, -⟩ := hF
          have e62 : f 62 = .bool false := h62
          clear h62
          replace B2 := Lib.hid (B2.out.touch hS notin_nil)
          replace B6 := Lib.hid (B6.out.touch hS notin_nil)
          replace B8 := Lib.hid (B8.out.touch hS notin_nil)
          replace B9 := Lib.hid (B9.out.touch hS notin_nil)
          replace B10 := Lib.hid (B10.out.touch hS notin_nil)
          replace HT := Lib.hid (HT.out.trans hS)
          clear hS
          simp only [setAll, List.setIfInBounds_toArray, List.set_cons_zero, List.set_cons_succ, e62]
          show wpList _ _ _ [] _ _
          refine wpList_nil ?_
          clear e62
          go_upto_region 11 with fail
          refine wp_region_list (wpList_flowP 1 (lookW [(4, pu (isB false)), (64, pu (isB false))]) [4] [64] [64] (by kernel_rfl) (by kernel_rfl) (by kernel_rfl) ⟨rfl, trivial⟩ ?_ ?_)
          · refine FStepsW.cons (FStepW.plain rfl fun a w hS hE => OpTo.move rfl ⟨dOfW.of 64 rfl (hE 4 (by kernel_rfl)), Touch.refl _ _⟩) ?_
            exact FStepsW.nil
          intro f w12 hS hF
          obtain ⟨h64, -⟩ := hF
          have e64 : f 64 = .bool false := h64
          clear h64
          replace B2 := Lib.hid (B2.out.touch hS notin_nil)
          replace B6 := Lib.hid (B6.out.touch hS notin_nil)
          replace B8 := Lib.hid (B8.out.touch hS notin_nil)
          replace B9 := Lib.hid (B9.out.touch hS notin_nil)
          replace B10 := Lib.hid (B10.out.touch hS notin_nil)
          replace HT := Lib.hid (HT.out.trans hS)
          clear hS
          simp only [setAll, List.setIfInBounds_toArray, List.set_cons_zero, List.set_cons_succ, e64]
          show wpList _ _ _ [] _ _
          refine wpList_nil ?_
          clear e64
          go_upto_region 13 with fail
          refine wp_region_list (wpList_flowP 3 (lookW [(6, pu (isP (g6))), (10, pu (isP (g10))), (67, pu (EV (rootN (argN (dyN s))))), (68, pu (EV (dyN s))), (69, pu (PQv (rootN (argN (dyN s))) (dyN s) (1) (mulF (rootN (argN (dyN s))) (dyN s))))]) [6, 10] [67, 68, 69] [69] (by kernel_rfl) (by kernel_rfl) (by kernel_rfl) ⟨rfl, rfl, trivial⟩ ?_ ?_)
          · refine FStepsW.cons (FStepW.plain rfl fun a w hS hE => OpTo.rdE 67 (.tmp 10) rfl rfl (g10) 0 (hE 10 (by kernel_rfl)) ((fun W hW => RdE.el (B10.out.touch hW notin_nil) R52.out.1 R52.out.2) w hS) (fun _ h => h)) ?_
            refine FStepsW.cons (FStepW.plain rfl fun a w hS hE => OpTo.rdE 68 (.tmp 6) rfl rfl (g6) 0 (hE 6 (by kernel_rfl)) ((fun W hW => RdE.el (B6.out.touch hW notin_nil) R31.out.1 R31.out.2) w hS) (fun _ h => h)) ?_
            refine FStepsW.cons (FStepW.plain rfl fun a w hS hE => OpTo.call #[a.tmps.getD 67 undef, a.tmps.getD 68 undef] rfl Tryd.func41 (by kernel_rfl) (by kernel_rfl) (args2 ..) ((of_q (hE 67 (by kernel_rfl)) (hE 68 (by kernel_rfl)) w).mono fun _ _ h => Gives.toW 69 rfl (fun _ _ h => h) h)) ?_
            exact FStepsW.nil
          intro f w13 hS hF
          obtain ⟨h69, -⟩ := hF
          obtain ⟨l69, q69, e69⟩ := h69
          have Q69 := Lib.hid q69
          clear q69
          replace B2 := Lib.hid (B2.out.touch hS notin_nil)
          replace B6 := Lib.hid (B6.out.touch hS notin_nil)
          replace B8 := Lib.hid (B8.out.touch hS notin_nil)
          replace B9 := Lib.hid (B9.out.touch hS notin_nil)
          replace B10 := Lib.hid (B10.out.touch hS notin_nil)
          replace HT := Lib.hid (HT.out.trans hS)
          clear hS
          simp only [setAll, List.setIfInBounds_toArray, List.set_cons_zero, List.set_cons_succ, e69]
          show wpList _ _ _ [_, _] _ _
          refine wpList_store_row rfl 29 (.tmp 2) (.tmp 69) rfl g2 (ptA true l69) rfl rfl 29 (ptA false zl) B2.out (by rw [ptA_size Q69.out.len]; exact infoP) ((ptA_size zl_len).trans (ptA_size Q69.out.len).symm) (ptA_one true l69) ?_
          refine wpList_run (v := .int .i64 0) rfl (exec_assignV rfl rfl) ?_
          refine wpList_nil ?_
          simp only [Act.put, List.setIfInBounds_toArray, List.set_cons_zero, List.set_cons_succ]
          have B2' := (B2.out.setRow (ptA true l69))
          have B6' := (B6.out.frow (Ne.symm NE2_6.out) (ptA true l69))
          have B8' := (B8.out.frow (Ne.symm NE2_8.out) (ptA true l69))
          have B9' := (B9.out.frow (Ne.symm NE2_9.out) (ptA true l69))
          have B10' := (B10.out.frow (Ne.symm NE2_10.out) (ptA true l69))
          have HT' := (HT.out.setRowE (.inr HB2.out) (ptA true l69))
          obtain ⟨w14, hw14⟩ : ∃ w14, w14 = (w13.setRow g2 (ptA true l69)) := ⟨_, rfl⟩
          rw [← hw14] at HT' B2' B6' B8' B9' B10'
          rw [← hw14]
          clear hw14 HT B2 B6 B8 B9 B10
          have B2 := Lib.hid B2'
          clear B2'
          have B6 := Lib.hid B6'
          clear B6'
          have B8 := Lib.hid B8'
          clear B8'
          have B9 := Lib.hid B9'
          clear B9'
          have B10 := Lib.hid B10'
          clear B10'
          have HT := Lib.hid HT'
          clear HT'
          clear e69
          go_wp2_with fail
          rw [decC_yes HOK.out]
          have hr := dec_rep HOK.out
          rw [HX.out] at hr
          exact dec_ret Tryd.results16 Q69.out.len rfl rfl 29 B2.out HT.out (PQv.pt hr ⟨_, Q69.out, rfl⟩)
        case pos =>
          have HO := Lib.hid ho
          simp only [ho]
          clear ho
          by_cases hz : rootN (argN (dyN s)) = 0
          case pos =>
            have HN := Lib.hid (show ¬ decOK s from fun h => h.2.2.2 ⟨HO.out, hz⟩)
            have HZ := Lib.hid (show decide (rootN (argN (dyN s)) = 0) = true from decide_eq_true hz)
            clear hz
            refine wp_region_list (wpList_flowP 9 (lookW [(4, pu (isB true)), (10, pu (isP (g10))), (11, pu (isB true)), (54, pu (isB true)), (55, pu (isB false)), (56, pu (isB false)), (57, pu (isB true)), (58, pu (isB true)), (59, pu (EV (rootN (argN (dyN s))))), (60, pu (isB true)), (61, pu (isB true)), (62, pu (isB true))]) [4, 10, 11] [54, 55, 56, 57, 58, 59, 60, 61, 62] [62] (by kernel_rfl) (by kernel_rfl) (by kernel_rfl) ⟨rfl, rfl, rfl, trivial⟩ ?_ ?_)
            · refine FStepsW.cons (FStepW.plain rfl fun a w hS hE => OpTo.move rfl ⟨dOfW.of 54 rfl (hE 11 (by kernel_rfl)), Touch.refl _ _⟩) ?_
              refine FStepsW.cons (FStepW.plain rfl fun a w hS hE => OpTo.not true rfl (hE 54 (by kernel_rfl)) ⟨dOfW.of 55 rfl (Eq.refl (Value.bool false)), Touch.refl _ _⟩) ?_
              refine FStepsW.cons (FStepW.plain rfl fun a w hS hE => OpTo.move rfl ⟨dOfW.of 56 rfl (hE 55 (by kernel_rfl)), Touch.refl _ _⟩) ?_
              refine FStepsW.cons (FStepW.go 56 rfl rfl (fun _ _ h => h) fun a w hS hE => OpTo.move rfl ⟨dOfW.of 57 rfl (hE 4 (by kernel_rfl)), Touch.refl _ _⟩) ?_
              refine FStepsW.cons (FStepW.go 56 rfl rfl (fun _ _ h => h) fun a w hS hE => OpTo.move rfl ⟨dOfW.of 58 rfl (hE 57 (by kernel_rfl)), Touch.refl _ _⟩) ?_
              refine FStepsW.cons (FStepW.go 58 rfl rfl (fun _ _ h => h) fun a w hS hE => OpTo.rdE 59 (.tmp 10) rfl rfl (g10) 0 (hE 10 (by kernel_rfl)) ((fun W hW => RdE.el (B10.out.touch hW notin_nil) R52.out.1 R52.out.2) w hS) (fun _ h => h)) ?_
              refine FStepsW.cons (FStepW.go 58 rfl rfl (fun _ _ h => h) fun a w hS hE => OpTo.call #[a.tmps.getD 59 undef] rfl Tryd.func40 (by kernel_rfl) (by kernel_rfl) (args1 ..) ((zero_v (hE 59 (by kernel_rfl)) HZ.out w).mono fun _ _ h => Gives.toW 60 rfl (fun _ _ h => h) h)) ?_
              refine FStepsW.cons (FStepW.go 56 rfl rfl (fun _ _ h => h) fun a w hS hE => OpTo.pick true rfl (hE 58 (by kernel_rfl)) ⟨dOfW.of 61 rfl (hE 60 (by kernel_rfl)), Touch.refl _ _⟩) ?_
              refine FStepsW.cons (FStepW.plain rfl fun a w hS hE => OpTo.pick false rfl (hE 56 (by kernel_rfl)) ⟨dOfW.of 62 rfl (hE 61 (by kernel_rfl)), Touch.refl _ _⟩) ?_
              exact FStepsW.nil
            intro f w11 hS hF
            obtain ⟨h62, -⟩ := hF
            have e62 : f 62 = .bool true := h62
            clear h62
            replace B2 := Lib.hid (B2.out.touch hS notin_nil)
            replace B6 := Lib.hid (B6.out.touch hS notin_nil)
            replace B8 := Lib.hid (B8.out.touch hS notin_nil)
            replace B9 := Lib.hid (B9.out.touch hS notin_nil)
            replace B10 := Lib.hid (B10.out.touch hS notin_nil)
            replace HT := Lib.hid (HT.out.trans hS)
            clear hS
            simp only [setAll, List.setIfInBounds_toArray, List.set_cons_zero, List.set_cons_succ, e62]
            show wpList _ _ _ [] _ _
            refine wpList_nil ?_
            clear e62
            go_upto_region 10 with fail
            refine wp_region_list (wpList_flowP 1 (lookW [(63, pu (isV (ptV false zl)))]) [] [63] [63] (by kernel_rfl) (by kernel_rfl) (by kernel_rfl) trivial ?_ ?_)
            · refine FStepsW.cons (FStepW.plain rfl fun a w hS hE => OpTo.pureG (v := ptV false zl) 63 rfl (by unfold execOp; simp only [List.map_toArray, List.map_nil, Sem.run_bind, Sem.run_pure, run_build_pt0, Result.andThen_ok]) rfl) ?_
              exact FStepsW.nil
            intro f w12 hS hF
            obtain ⟨h63, -⟩ := hF
            have e63 : f 63 = ptV false zl := h63
            clear h63
            replace B2 := Lib.hid (B2.out.touch hS notin_nil)
            replace B6 := Lib.hid (B6.out.touch hS notin_nil)
            replace B8 := Lib.hid (B8.out.touch hS notin_nil)
            replace B9 := Lib.hid (B9.out.touch hS notin_nil)
            replace B10 := Lib.hid (B10.out.touch hS notin_nil)
            replace HT := Lib.hid (HT.out.trans hS)
            clear hS
            simp only [setAll, List.setIfInBounds_toArray, List.set_cons_zero, List.set_cons_succ, e63]
            show wpList _ _ _ [_, _] _ _
            refine wpList_store_row rfl 29 (.tmp 2) (.tmp 63) rfl g2 (ptA false zl) rfl rfl 29 (ptA false zl) B2.out (by rw [ptA_size zl_len]; exact infoP) ((ptA_size zl_len).trans (ptA_size zl_len).symm) (ptA_one false zl) ?_
            refine wpList_run (v := .int .i64 9) rfl (exec_assignV rfl rfl) ?_
            refine wpList_nil ?_
            simp only [Act.put, List.setIfInBounds_toArray, List.set_cons_zero, List.set_cons_succ]
            have B2' := (B2.out.setRow (ptA false zl))
            have B6' := (B6.out.frow (Ne.symm NE2_6.out) (ptA false zl))
            have B8' := (B8.out.frow (Ne.symm NE2_8.out) (ptA false zl))
            have B9' := (B9.out.frow (Ne.symm NE2_9.out) (ptA false zl))
            have B10' := (B10.out.frow (Ne.symm NE2_10.out) (ptA false zl))
            have HT' := (HT.out.setRowE (.inr HB2.out) (ptA false zl))
            obtain ⟨w13, hw13⟩ : ∃ w13, w13 = (w12.setRow g2 (ptA false zl)) := ⟨_, rfl⟩
            rw [← hw13] at HT' B2' B6' B8' B9' B10'
            rw [← hw13]
            clear hw13 HT B2 B6 B8 B9 B10
            have B2 := Lib.hid B2'
            clear B2'
            have B6 := Lib.hid B6'
            clear B6'
            have B8 := Lib.hid B8'
            clear B8'
            have B9 := Lib.hid B9'
            clear B9'
            have B10 := Lib.hid B10'
            clear B10'
            have HT := Lib.hid HT'
            clear HT'
            clear e63
            go_wp2_with fail
            rw [decP_no HN.out, decC_no HN.out]
            exact dec_ret Tryd.results16 zl_len rfl rfl 29 B2.out HT.out PtV.none
          case neg =>
            have HOK := Lib.hid (show decOK s from ⟨H32.out, HP.out, HI.out, fun h => hz h.2⟩)
            have HZ := Lib.hid (show decide (rootN (argN (dyN s)) = 0) = false from decide_eq_false hz)
            have HX := Lib.hid (show decX s = negF (rootN (argN (dyN s))) by unfold decX; rw [HO.out, if_pos rfl])
            clear hz
            refine wp_region_list (wpList_flowP 9 (lookW [(4, pu (isB true)), (10, pu (isP (g10))), (11, pu (isB true)), (54, pu (isB true)), (55, pu (isB false)), (56, pu (isB false)), (57, pu (isB true)), (58, pu (isB true)), (59, pu (EV (rootN (argN (dyN s))))), (60, pu (isB false)), (61, pu (isB false)), (62, pu (isB false))]) [4, 10, 11] [54, 55, 56, 57, 58, 59, 60, 61, 62] [62] (by kernel_rfl) (by kernel_rfl) (by kernel_rfl) ⟨rfl, rfl, rfl, trivial⟩ ?_ ?_)
            · refine FStepsW.cons (FStepW.plain rfl fun a w hS hE => OpTo.move rfl ⟨dOfW.of 54 rfl (hE 11 (by kernel_rfl)), Touch.refl _ _⟩) ?_
              refine FStepsW.cons (FStepW.plain rfl fun a w hS hE => OpTo.not true rfl (hE 54 (by kernel_rfl)) ⟨dOfW.of 55 rfl (Eq.refl (Value.bool false)), Touch.refl _ _⟩) ?_
              refine FStepsW.cons (FStepW.plain rfl fun a w hS hE => OpTo.move rfl ⟨dOfW.of 56 rfl (hE 55 (by kernel_rfl)), Touch.refl _ _⟩) ?_
              refine FStepsW.cons (FStepW.go 56 rfl rfl (fun _ _ h => h) fun a w hS hE => OpTo.move rfl ⟨dOfW.of 57 rfl (hE 4 (by kernel_rfl)), Touch.refl _ _⟩) ?_
              refine FStepsW.cons (FStepW.go 56 rfl rfl (fun _ _ h => h) fun a w hS hE => OpTo.move rfl ⟨dOfW.of 58 rfl (hE 57 (by kernel_rfl)), Touch.refl _ _⟩) ?_
              refine FStepsW.cons (FStepW.go 58 rfl rfl (fun _ _ h => h) fun a w hS hE => OpTo.rdE 59 (.tmp 10) rfl rfl (g10) 0 (hE 10 (by kernel_rfl)) ((fun W hW => RdE.el (B10.out.touch hW notin_nil) R52.out.1 R52.out.2) w hS) (fun _ h => h)) ?_
              refine FStepsW.cons (FStepW.go 58 rfl rfl (fun _ _ h => h) fun a w hS hE => OpTo.call #[a.tmps.getD 59 undef] rfl Tryd.func40 (by kernel_rfl) (by kernel_rfl) (args1 ..) ((zero_v (hE 59 (by kernel_rfl)) HZ.out w).mono fun _ _ h => Gives.toW 60 rfl (fun _ _ h => h) h)) ?_
              refine FStepsW.cons (FStepW.go 56 rfl rfl (fun _ _ h => h) fun a w hS hE => OpTo.pick true rfl (hE 58 (by kernel_rfl)) ⟨dOfW.of 61 rfl (hE 60 (by kernel_rfl)), Touch.refl _ _⟩) ?_
              refine FStepsW.cons (FStepW.plain rfl fun a w hS hE => OpTo.pick false rfl (hE 56 (by kernel_rfl)) ⟨dOfW.of 62 rfl (hE 61 (by kernel_rfl)), Touch.refl _ _⟩) ?_
              exact FStepsW.nil
            intro f w11 hS hF
            obtain ⟨h62, -⟩ := hF
            have e62 : f 62 = .bool false := h62
            clear h62
            replace B2 := Lib.hid (B2.out.touch hS notin_nil)
            replace B6 := Lib.hid (B6.out.touch hS notin_nil)
            replace B8 := Lib.hid (B8.out.touch hS notin_nil)
            replace B9 := Lib.hid (B9.out.touch hS notin_nil)
            replace B10 := Lib.hid (B10.out.touch hS notin_nil)
            replace HT := Lib.hid (HT.out.trans hS)
            clear hS
            simp only [setAll, List.setIfInBounds_toArray, List.set_cons_zero, List.set_cons_succ, e62]
            show wpList _ _ _ [] _ _
            refine wpList_nil ?_
            clear e62
            go_upto_region 11 with fail
            refine wp_region_list (wpList_flowP 1 (lookW [(4, pu (isB true)), (64, pu (isB true))]) [4] [64] [64] (by kernel_rfl) (by kernel_rfl) (by kernel_rfl) ⟨rfl, trivial⟩ ?_ ?_)
            · refine FStepsW.cons (FStepW.plain rfl fun a w hS hE => OpTo.move rfl ⟨dOfW.of 64 rfl (hE 4 (by kernel_rfl)), Touch.refl _ _⟩) ?_
              exact FStepsW.nil
            intro f w12 hS hF
            obtain ⟨h64, -⟩ := hF
            have e64 : f 64 = .bool true := h64
            clear h64
            replace B2 := Lib.hid (B2.out.touch hS notin_nil)
            replace B6 := Lib.hid (B6.out.touch hS notin_nil)
            replace B8 := Lib.hid (B8.out.touch hS notin_nil)
            replace B9 := Lib.hid (B9.out.touch hS notin_nil)
            replace B10 := Lib.hid (B10.out.touch hS notin_nil)
            replace HT := Lib.hid (HT.out.trans hS)
            clear hS
            simp only [setAll, List.setIfInBounds_toArray, List.set_cons_zero, List.set_cons_succ, e64]
            show wpList _ _ _ [] _ _
            refine wpList_nil ?_
            clear e64
            go_upto_region 12 with fail
            refine wp_region_list (wpList_flowP 2 (lookW [(10, pu (isP (g10))), (65, pu (EV (rootN (argN (dyN s))))), (66, pu (EV (negF (rootN (argN (dyN s))))))]) [10] [65, 66] [66] (by kernel_rfl) (by kernel_rfl) (by kernel_rfl) ⟨rfl, trivial⟩ ?_ ?_)
            · refine FStepsW.cons (FStepW.plain rfl fun a w hS hE => OpTo.rdE 65 (.tmp 10) rfl rfl (g10) 0 (hE 10 (by kernel_rfl)) ((fun W hW => RdE.el (B10.out.touch hW notin_nil) R52.out.1 R52.out.2) w hS) (fun _ h => h)) ?_
              refine FStepsW.cons (FStepW.plain rfl fun a w hS hE => OpTo.call #[a.tmps.getD 65 undef] rfl Tryd.func29 (by kernel_rfl) (by kernel_rfl) (args1 ..) ((neg_v (hE 65 (by kernel_rfl)) w).mono fun _ _ h => Gives.toW 66 rfl (fun _ _ h => h) h)) ?_
              exact FStepsW.nil
            intro f w13 hS hF
            obtain ⟨h66, -⟩ := hF
            obtain ⟨l66, e66, r66⟩ := EV.list (n := negF (rootN (argN (dyN s)))) (v := f 66) h66
            have R66 := Lib.hid r66
            clear r66 h66
            replace B2 := Lib.hid (B2.out.touch hS notin_nil)
            replace B6 := Lib.hid (B6.out.touch hS notin_nil)
            replace B8 := Lib.hid (B8.out.touch hS notin_nil)
            replace B9 := Lib.hid (B9.out.touch hS notin_nil)
            replace B10 := Lib.hid (B10.out.touch hS notin_nil)
            replace HT := Lib.hid (HT.out.trans hS)
            clear hS
            simp only [setAll, List.setIfInBounds_toArray, List.set_cons_zero, List.set_cons_succ, e66]
            show wpList _ _ _ [_] _ _
            refine wpList_store_row rfl 25 (.tmp 10) (.tmp 66) rfl g10 (cellsZ l66).toArray rfl rfl 25 (cellsZ l52).toArray B10.out (by rw [cellsZ_size, R66.out.1.len]; exact infoE) ((cellsZ_size _).trans ((R52.out.1.len).trans ((R66.out.1.len).symm.trans (cellsZ_size _).symm))) (cellsZ_one l66) ?_
            refine wpList_nil ?_
            simp only [Act.put]
            have B2' := (B2.out.frow NE2_10.out (cellsZ l66).toArray)
            have B6' := (B6.out.frow NE6_10.out (cellsZ l66).toArray)
            have B8' := (B8.out.frow NE8_10.out (cellsZ l66).toArray)
            have B9' := (B9.out.frow NE9_10.out (cellsZ l66).toArray)
            have B10' := (B10.out.setRow (cellsZ l66).toArray)
            have HT' := (HT.out.setRowE (.inr HB10.out) (cellsZ l66).toArray)
            obtain ⟨w14, hw14⟩ : ∃ w14, w14 = (w13.setRow g10 (cellsZ l66).toArray) := ⟨_, rfl⟩
            rw [← hw14] at HT' B2' B6' B8' B9' B10'
            rw [← hw14]
            clear hw14 HT B2 B6 B8 B9 B10
            have B2 := Lib.hid B2'
            clear B2'
            have B6 := Lib.hid B6'
            clear B6'
            have B8 := Lib.hid B8'
            clear B8'
            have B9 := Lib.hid B9'
            clear B9'
            have B10 := Lib.hid B10'
            clear B10'
            have HT := Lib.hid HT'
            clear HT'
            clear e66
            go_upto_region 13 with fail
            refine wp_region_list (wpList_flowP 3 (lookW [(6, pu (isP (g6))), (10, pu (isP (g10))), (67, pu (EV (negF (rootN (argN (dyN s)))))), (68, pu (EV (dyN s))), (69, pu (PQv (negF (rootN (argN (dyN s)))) (dyN s) (1) (mulF (negF (rootN (argN (dyN s)))) (dyN s))))]) [6, 10] [67, 68, 69] [69] (by kernel_rfl) (by kernel_rfl) (by kernel_rfl) ⟨rfl, rfl, trivial⟩ ?_ ?_)
            · refine FStepsW.cons (FStepW.plain rfl fun a w hS hE => OpTo.rdE 67 (.tmp 10) rfl rfl (g10) 0 (hE 10 (by kernel_rfl)) ((fun W hW => RdE.el (B10.out.touch hW notin_nil) R66.out.1 R66.out.2) w hS) (fun _ h => h)) ?_
              refine FStepsW.cons (FStepW.plain rfl fun a w hS hE => OpTo.rdE 68 (.tmp 6) rfl rfl (g6) 0 (hE 6 (by kernel_rfl)) ((fun W hW => RdE.el (B6.out.touch hW notin_nil) R31.out.1 R31.out.2) w hS) (fun _ h => h)) ?_
              refine FStepsW.cons (FStepW.plain rfl fun a w hS hE => OpTo.call #[a.tmps.getD 67 undef, a.tmps.getD 68 undef] rfl Tryd.func41 (by kernel_rfl) (by kernel_rfl) (args2 ..) ((of_q (hE 67 (by kernel_rfl)) (hE 68 (by kernel_rfl)) w).mono fun _ _ h => Gives.toW 69 rfl (fun _ _ h => h) h)) ?_
              exact FStepsW.nil
            intro f w15 hS hF
            obtain ⟨h69, -⟩ := hF
            obtain ⟨l69, q69, e69⟩ := h69
            have Q69 := Lib.hid q69
            clear q69
            replace B2 := Lib.hid (B2.out.touch hS notin_nil)
            replace B6 := Lib.hid (B6.out.touch hS notin_nil)
            replace B8 := Lib.hid (B8.out.touch hS notin_nil)
            replace B9 := Lib.hid (B9.out.touch hS notin_nil)
            replace B10 := Lib.hid (B10.out.touch hS notin_nil)
            replace HT := Lib.hid (HT.out.trans hS)
            clear hS
            simp only [setAll, List.setIfInBounds_toArray, List.set_cons_zero, List.set_cons_succ, e69]
            show wpList _ _ _ [_, _] _ _
            refine wpList_store_row rfl 29 (.tmp 2) (.tmp 69) rfl g2 (ptA true l69) rfl rfl 29 (ptA false zl) B2.out (by rw [ptA_size Q69.out.len]; exact infoP) ((ptA_size zl_len).trans (ptA_size Q69.out.len).symm) (ptA_one true l69) ?_
            refine wpList_run (v := .int .i64 0) rfl (exec_assignV rfl rfl) ?_
            refine wpList_nil ?_
            simp only [Act.put, List.setIfInBounds_toArray, List.set_cons_zero, List.set_cons_succ]
            have B2' := (B2.out.setRow (ptA true l69))
            have B6' := (B6.out.frow (Ne.symm NE2_6.out) (ptA true l69))
            have B8' := (B8.out.frow (Ne.symm NE2_8.out) (ptA true l69))
            have B9' := (B9.out.frow (Ne.symm NE2_9.out) (ptA true l69))
            have B10' := (B10.out.frow (Ne.symm NE2_10.out) (ptA true l69))
            have HT' := (HT.out.setRowE (.inr HB2.out) (ptA true l69))
            obtain ⟨w16, hw16⟩ : ∃ w16, w16 = (w15.setRow g2 (ptA true l69)) := ⟨_, rfl⟩
            rw [← hw16] at HT' B2' B6' B8' B9' B10'
            rw [← hw16]
            clear hw16 HT B2 B6 B8 B9 B10
            have B2 := Lib.hid B2'
            clear B2'
            have B6 := Lib.hid B6'
            clear B6'
            have B8 := Lib.hid B8'
            clear B8'
            have B9 := Lib.hid B9'
            clear B9'
            have B10 := Lib.hid B10'
            clear B10'
            have HT := Lib.hid HT'
            clear HT'
            clear e69
            go_wp2_with fail
            rw [decC_yes HOK.out]
            have hr := dec_rep HOK.out
            rw [HX.out] at hr
            exact dec_ret Tryd.results16 Q69.out.len rfl rfl 29 B2.out HT.out (PQv.pt hr ⟨_, Q69.out, rfl⟩)
end Go.Proofs.YtbgpgbfiadhddaaDoor
/- Point.Same. -/
namespace Go.Proofs.YtbgpgbfiadhddaaDoor
open Go Go.RowKit
set_option maxRecDepth 100000 in
set_option maxHeartbeats 4000000 in
theorem psame_v {P Q : Pt} {x y : Value} (hx : PtV P x) (hy : PtV Q y) (w : World) : Calls Tryd.prog 8 #[x, y] w (Gives w (isB (samePt P Q))) := by
  obtain ⟨b2, l2, h2, rfl⟩ := hx
  obtain ⟨b3, l3, h3, rfl⟩ := hy
  have P2 := Lib.hid h2
  have P3 := Lib.hid h3
  clear h2 h3
  unfold ptV
  go_enter Tryd.func8, Tryd.ntmps8
  go_upto_region 0 with fail
  refine wp_region_list ?_
  refine wpList_run rfl (exec_box rfl rfl) ?_
  refine wpList_run rfl (exec_box rfl rfl) ?_
  refine wpList_run rfl (exec_assign rfl) ?_
  refine wpList_nil ?_
  simp only [Act.put, List.setIfInBounds_toArray, List.set_cons_zero, List.set_cons_succ]
  obtain ⟨w1, g2, g3, hW, eg2, eg3, b2, b3, ht, hb2, hb3, ne2_3⟩ := start2 w 29 (ptA b2 l2) 29 (ptA b3 l3)
  rw [← hW]
  rw [← eg3]
  rw [← eg2]
  have HT := Lib.hid ht
  have B2 := Lib.hid b2
  have HB2 := Lib.hid hb2
  have B3 := Lib.hid b3
  have HB3 := Lib.hid hb3
  have NE2_3 := Lib.hid ne2_3
  clear hW eg2 eg3 b2 b3 ht hb2 hb3 ne2_3
  go_upto_region 1 with fail
  refine wp_region_flowX (lookW [(2, pu (isP (g2))), (3, pu (isP (g3))), (5, newS w1.heap.size 27 (cellsZ zl).toArray), (6, newS w1.heap.size 27 (cellsZ zl).toArray), (7, pu (PtV (P))), (8, pu (QuV (P))), (9, pu (PtV (Q))), (10, pu (QuV (Q)))]) (by kernel_rfl) 6 [] (fun d _ _ _ _ h => by cases d <;> exact h) (by intro l hl; cases hl) [2, 3] [7, 8, 9, 10, 5, 6] [8, 10, 5, 6] [(4, 5), (5, 6)] (by kernel_rfl) (by kernel_rfl) (by kernel_rfl) (by kernel_rfl) (by kernel_rfl) (by kernel_rfl) ⟨rfl, rfl, trivial⟩ ?_ ?_
  · refine FStepsX.cons rfl (FStepW.plain rfl fun a w hS hE => OpTo.rdP 7 (.tmp 2) rfl rfl (g2) (hE 2 (by kernel_rfl)) (B2.out.touch hS notin_nil) P2.out (fun _ h => h)) ?_
    refine FStepsX.cons rfl (FStepW.plain rfl fun a w hS hE => OpTo.call #[a.tmps.getD 7 undef] rfl Tryd.func22 (by kernel_rfl) (by kernel_rfl) (args1 ..) ((whole_v (hE 7 (by kernel_rfl)) w).mono fun _ _ h => Gives.toW 8 rfl (fun _ _ h => h) h)) ?_
    refine FStepsX.cons rfl (FStepW.plain rfl fun a w hS hE => OpTo.rdP 9 (.tmp 3) rfl rfl (g3) (hE 3 (by kernel_rfl)) (B3.out.touch hS notin_nil) P3.out (fun _ h => h)) ?_
    refine FStepsX.cons rfl (FStepW.plain rfl fun a w hS hE => OpTo.call #[a.tmps.getD 9 undef] rfl Tryd.func22 (by kernel_rfl) (by kernel_rfl) (args1 ..) ((whole_v (hE 9 (by kernel_rfl)) w).mono fun _ _ h => Gives.toW 10 rfl (fun _ _ h => h) h)) ?_
    refine FStepsX.new 5 27 (cellsZ zl).toArray rfl rfl (fun _ _ => exec_alloc_quad rfl) rfl ?_
    refine FStepsX.new 6 27 (cellsZ zl).toArray rfl rfl (fun _ _ => exec_alloc_quad rfl) rfl ?_
    exact FStepsX.nil
  intro f w2 hS hF hA
  obtain ⟨h8, h10, h5, h6, -⟩ := hF
  obtain ⟨l8, q8, e8⟩ := h8
  obtain ⟨l10, q10, e10⟩ := h10
  obtain ⟨g5, e5, z5, b5⟩ := h5
  obtain ⟨g6, e6, z6, b6⟩ := h6
  have ne5_6 : g5 ≠ g6 := fun e => hA (4, 5) (by simp) (5, 6) (by simp) (by decide) (by rw [e5, e6, e])
  have NE5_6 := Lib.hid ne5_6
  clear ne5_6
  have NE2_5 := Lib.hid (ne_new B2.out b5)
  have NE3_5 := Lib.hid (ne_new B3.out b5)
  have NE2_6 := Lib.hid (ne_new B2.out b6)
  have NE3_6 := Lib.hid (ne_new B3.out b6)
  clear hA
  replace B2 := Lib.hid (B2.out.touch hS notin_nil)
  replace B3 := Lib.hid (B3.out.touch hS notin_nil)
  have B5 := Lib.hid z5
  have HB5 := Lib.hid (Nat.le_trans HT.out.size b5)
  clear z5 b5
  have B6 := Lib.hid z6
  have HB6 := Lib.hid (Nat.le_trans HT.out.size b6)
  clear z6 b6
  replace HT := Lib.hid (HT.out.trans hS)
  clear hS
  simp only [setAll, List.setIfInBounds_toArray, List.set_cons_zero, List.set_cons_succ, e8, e10, e5, e6]
  show wpList _ _ _ [_, _] _ _
  obtain ⟨X5, Y5, Z5, T5, qr5, ql5⟩ := q8
  have QR5 := Lib.hid qr5
  have Q5 := Lib.hid ql5
  clear qr5 ql5
  refine wpList_store_row rfl 27 (.tmp 5) (.tmp 8) rfl g5 (cellsZ l8).toArray rfl rfl 27 (cellsZ zl).toArray B5.out (by rw [cellsZ_size, Q5.out.len]; exact infoQ) ((cellsZ_size _).trans ((zl_len).trans ((Q5.out.len).symm.trans (cellsZ_size _).symm))) (cellsZ_one l8) ?_
  obtain ⟨X6, Y6, Z6, T6, qr6, ql6⟩ := q10
  have QR6 := Lib.hid qr6
  have Q6 := Lib.hid ql6
  clear qr6 ql6
  refine wpList_store_row rfl 27 (.tmp 6) (.tmp 10) rfl g6 (cellsZ l10).toArray rfl rfl 27 (cellsZ zl).toArray (B6.out.frow (Ne.symm NE5_6.out) (cellsZ l8).toArray) (by rw [cellsZ_size, Q6.out.len]; exact infoQ) ((cellsZ_size _).trans ((zl_len).trans ((Q6.out.len).symm.trans (cellsZ_size _).symm))) (cellsZ_one l10) ?_
  refine wpList_nil ?_
  simp only [Act.put]
  have B2' := ((B2.out.frow NE2_5.out (cellsZ l8).toArray).frow NE2_6.out (cellsZ l10).toArray)
  have B3' := ((B3.out.frow NE3_5.out (cellsZ l8).toArray).frow NE3_6.out (cellsZ l10).toArray)
  have B5' := ((B5.out.setRow (cellsZ l8).toArray).frow NE5_6.out (cellsZ l10).toArray)
  have B6' := ((B6.out.frow (Ne.symm NE5_6.out) (cellsZ l8).toArray).setRow (cellsZ l10).toArray)
  have HT' := ((HT.out.setRowE (.inr HB5.out) (cellsZ l8).toArray).setRowE (.inr HB6.out) (cellsZ l10).toArray)
  obtain ⟨w3, hw3⟩ : ∃ w3, w3 = ((w2.setRow g5 (cellsZ l8).toArray).setRow g6 (cellsZ l10).toArray) := ⟨_, rfl⟩
  rw [← hw3] at HT' B2' B3' B5' B6'
  rw [← hw3]
  clear hw3 HT B2 B3 B5 B6
  have B2 := Lib.hid B2'
  clear B2'
  have B3 := Lib.hid B3'
  clear B3'
  have B5 := Lib.hid B5'
  clear B5'
  have B6 := Lib.hid B6'
  clear B6'
  have HT := Lib.hid HT'
  clear HT'
  clear B2 HB2
  clear B3 HB3
  clear e8 e10 e5 e6
  go_upto_region 2 with fail
  by_cases hxx : mulF X5 Z6 = mulF X6 Z5
  · skip
    have K21 := Lib.hid (show decide (mulF X5 Z6 = mulF X6 Z5) = true from decide_eq_true hxx)
    refine wp_region_flowX (lookW [(5, pu (isP (g5))), (6, pu (isP (g6))), (11, pu (isV (.pointer (some ⟨g5, 0, none⟩)))), (12, pu (EV (X5))), (13, pu (isV (.pointer (some ⟨g6, 32, none⟩)))), (14, pu (EV (Z6))), (15, pu (EV (mulF (X5) (Z6)))), (16, pu (isV (.pointer (some ⟨g6, 0, none⟩)))), (17, pu (EV (X6))), (18, pu (isV (.pointer (some ⟨g5, 32, none⟩)))), (19, pu (EV (Z5))), (20, pu (EV (mulF (X6) (Z5)))), (21, pu (isB true)), (22, pu (isB true)), (23, pu (isV (.pointer (some ⟨g5, 16, none⟩)))), (24, pu (EV (Y5))), (25, pu (isV (.pointer (some ⟨g6, 32, none⟩)))), (26, pu (EV (Z6))), (27, pu (EV (mulF (Y5) (Z6)))), (28, pu (isV (.pointer (some ⟨g6, 16, none⟩)))), (29, pu (EV (Y6))), (30, pu (isV (.pointer (some ⟨g5, 32, none⟩)))), (31, pu (EV (Z5))), (32, pu (EV (mulF (Y6) (Z5)))), (33, pu (isB (decide (mulF Y5 Z6 = mulF Y6 Z5)))), (34, pu (isB (decide (mulF Y5 Z6 = mulF Y6 Z5))))]) (by kernel_rfl) 24 [] (fun d _ _ _ _ h => by cases d <;> exact h) (by intro l hl; cases hl) [5, 6] [11, 12, 13, 14, 15, 16, 17, 18, 19, 20, 21, 22, 23, 24, 25, 26, 27, 28, 29, 30, 31, 32, 33, 34] [34] [] (by kernel_rfl) (by kernel_rfl) (by kernel_rfl) (by kernel_rfl) (by kernel_rfl) (by kernel_rfl) ⟨rfl, rfl, trivial⟩ ?_ ?_
    · refine FStepsX.cons rfl (FStepW.plain rfl fun a w hS hE => OpTo.pureG (v := .pointer (some ⟨g5, 0, none⟩)) 11 rfl (by have h5 : a.eval (.tmp 5) = .pointer (some ⟨g5, 0, none⟩) := hE 5 (by kernel_rfl); unfold execOp; simp only [h5]; go_simp) rfl) ?_
      refine FStepsX.cons rfl (FStepW.plain rfl fun a w hS hE => OpTo.rdE 12 (.tmp 11) rfl rfl (g5) 0 (hE 11 (by kernel_rfl)) ((fun W hW => RdE.q0 (B5.out.touch hW notin_nil) Q5.out) w hS) (fun _ h => h)) ?_
      refine FStepsX.cons rfl (FStepW.plain rfl fun a w hS hE => OpTo.pureG (v := .pointer (some ⟨g6, 32, none⟩)) 13 rfl (by have h6 : a.eval (.tmp 6) = .pointer (some ⟨g6, 0, none⟩) := hE 6 (by kernel_rfl); unfold execOp; simp only [h6]; go_simp) rfl) ?_
      refine FStepsX.cons rfl (FStepW.plain rfl fun a w hS hE => OpTo.rdE 14 (.tmp 13) rfl rfl (g6) 32 (hE 13 (by kernel_rfl)) ((fun W hW => RdE.q2 (B6.out.touch hW notin_nil) Q6.out) w hS) (fun _ h => h)) ?_
      refine FStepsX.cons rfl (FStepW.plain rfl fun a w hS hE => OpTo.call #[a.tmps.getD 12 undef, a.tmps.getD 14 undef] rfl Tryd.func23 (by kernel_rfl) (by kernel_rfl) (args2 ..) ((mul_v (hE 12 (by kernel_rfl)) (hE 14 (by kernel_rfl)) w).mono fun _ _ h => Gives.toW 15 rfl (fun _ _ h => h) h)) ?_
      refine FStepsX.cons rfl (FStepW.plain rfl fun a w hS hE => OpTo.pureG (v := .pointer (some ⟨g6, 0, none⟩)) 16 rfl (by have h6 : a.eval (.tmp 6) = .pointer (some ⟨g6, 0, none⟩) := hE 6 (by kernel_rfl); unfold execOp; simp only [h6]; go_simp) rfl) ?_
      refine FStepsX.cons rfl (FStepW.plain rfl fun a w hS hE => OpTo.rdE 17 (.tmp 16) rfl rfl (g6) 0 (hE 16 (by kernel_rfl)) ((fun W hW => RdE.q0 (B6.out.touch hW notin_nil) Q6.out) w hS) (fun _ h => h)) ?_
      refine FStepsX.cons rfl (FStepW.plain rfl fun a w hS hE => OpTo.pureG (v := .pointer (some ⟨g5, 32, none⟩)) 18 rfl (by have h5 : a.eval (.tmp 5) = .pointer (some ⟨g5, 0, none⟩) := hE 5 (by kernel_rfl); unfold execOp; simp only [h5]; go_simp) rfl) ?_
      refine FStepsX.cons rfl (FStepW.plain rfl fun a w hS hE => OpTo.rdE 19 (.tmp 18) rfl rfl (g5) 32 (hE 18 (by kernel_rfl)) ((fun W hW => RdE.q2 (B5.out.touch hW notin_nil) Q5.out) w hS) (fun _ h => h)) ?_
      refine FStepsX.cons rfl (FStepW.plain rfl fun a w hS hE => OpTo.call #[a.tmps.getD 17 undef, a.tmps.getD 19 undef] rfl Tryd.func23 (by kernel_rfl) (by kernel_rfl) (args2 ..) ((mul_v (hE 17 (by kernel_rfl)) (hE 19 (by kernel_rfl)) w).mono fun _ _ h => Gives.toW 20 rfl (fun _ _ h => h) h)) ?_
      refine FStepsX.cons rfl (FStepW.plain rfl fun a w hS hE => OpTo.call #[a.tmps.getD 15 undef, a.tmps.getD 20 undef] rfl Tryd.func24 (by kernel_rfl) (by kernel_rfl) (args2 ..) ((same_v (hE 15 (by kernel_rfl)) (hE 20 (by kernel_rfl)) K21.out w).mono fun _ _ h => Gives.toW 21 rfl (fun _ _ h => h) h)) ?_
      refine FStepsX.cons rfl (FStepW.plain rfl fun a w hS hE => OpTo.move rfl ⟨dOfW.of 22 rfl (hE 21 (by kernel_rfl)), Touch.refl _ _⟩) ?_
      refine FStepsX.cons rfl (FStepW.go 22 rfl rfl (fun _ _ h => h) fun a w hS hE => OpTo.pureG (v := .pointer (some ⟨g5, 16, none⟩)) 23 rfl (by have h5 : a.eval (.tmp 5) = .pointer (some ⟨g5, 0, none⟩) := hE 5 (by kernel_rfl); unfold execOp; simp only [h5]; go_simp) rfl) ?_
      refine FStepsX.cons rfl (FStepW.go 22 rfl rfl (fun _ _ h => h) fun a w hS hE => OpTo.rdE 24 (.tmp 23) rfl rfl (g5) 16 (hE 23 (by kernel_rfl)) ((fun W hW => RdE.q1 (B5.out.touch hW notin_nil) Q5.out) w hS) (fun _ h => h)) ?_
      refine FStepsX.cons rfl (FStepW.go 22 rfl rfl (fun _ _ h => h) fun a w hS hE => OpTo.pureG (v := .pointer (some ⟨g6, 32, none⟩)) 25 rfl (by have h6 : a.eval (.tmp 6) = .pointer (some ⟨g6, 0, none⟩) := hE 6 (by kernel_rfl); unfold execOp; simp only [h6]; go_simp) rfl) ?_
      refine FStepsX.cons rfl (FStepW.go 22 rfl rfl (fun _ _ h => h) fun a w hS hE => OpTo.rdE 26 (.tmp 25) rfl rfl (g6) 32 (hE 25 (by kernel_rfl)) ((fun W hW => RdE.q2 (B6.out.touch hW notin_nil) Q6.out) w hS) (fun _ h => h)) ?_
      refine FStepsX.cons rfl (FStepW.go 22 rfl rfl (fun _ _ h => h) fun a w hS hE => OpTo.call #[a.tmps.getD 24 undef, a.tmps.getD 26 undef] rfl Tryd.func23 (by kernel_rfl) (by kernel_rfl) (args2 ..) ((mul_v (hE 24 (by kernel_rfl)) (hE 26 (by kernel_rfl)) w).mono fun _ _ h => Gives.toW 27 rfl (fun _ _ h => h) h)) ?_
      refine FStepsX.cons rfl (FStepW.go 22 rfl rfl (fun _ _ h => h) fun a w hS hE => OpTo.pureG (v := .pointer (some ⟨g6, 16, none⟩)) 28 rfl (by have h6 : a.eval (.tmp 6) = .pointer (some ⟨g6, 0, none⟩) := hE 6 (by kernel_rfl); unfold execOp; simp only [h6]; go_simp) rfl) ?_
      refine FStepsX.cons rfl (FStepW.go 22 rfl rfl (fun _ _ h => h) fun a w hS hE => OpTo.rdE 29 (.tmp 28) rfl rfl (g6) 16 (hE 28 (by kernel_rfl)) ((fun W hW => RdE.q1 (B6.out.touch hW notin_nil) Q6.out) w hS) (fun _ h => h)) ?_
      refine FStepsX.cons rfl (FStepW.go 22 rfl rfl (fun _ _ h => h) fun a w hS hE => OpTo.pureG (v := .pointer (some ⟨g5, 32, none⟩)) 30 rfl (by have h5 : a.eval (.tmp 5) = .pointer (some ⟨g5, 0, none⟩) := hE 5 (by kernel_rfl); unfold execOp; simp only [h5]; go_simp) rfl) ?_
      refine FStepsX.cons rfl (FStepW.go 22 rfl rfl (fun _ _ h => h) fun a w hS hE => OpTo.rdE 31 (.tmp 30) rfl rfl (g5) 32 (hE 30 (by kernel_rfl)) ((fun W hW => RdE.q2 (B5.out.touch hW notin_nil) Q5.out) w hS) (fun _ h => h)) ?_
      refine FStepsX.cons rfl (FStepW.go 22 rfl rfl (fun _ _ h => h) fun a w hS hE => OpTo.call #[a.tmps.getD 29 undef, a.tmps.getD 31 undef] rfl Tryd.func23 (by kernel_rfl) (by kernel_rfl) (args2 ..) ((mul_v (hE 29 (by kernel_rfl)) (hE 31 (by kernel_rfl)) w).mono fun _ _ h => Gives.toW 32 rfl (fun _ _ h => h) h)) ?_
      refine FStepsX.cons rfl (FStepW.go 22 rfl rfl (fun _ _ h => h) fun a w hS hE => OpTo.call #[a.tmps.getD 27 undef, a.tmps.getD 32 undef] rfl Tryd.func24 (by kernel_rfl) (by kernel_rfl) (args2 ..) ((same_v (hE 27 (by kernel_rfl)) (hE 32 (by kernel_rfl)) rfl w).mono fun _ _ h => Gives.toW 33 rfl (fun _ _ h => h) h)) ?_
      refine FStepsX.cons rfl (FStepW.plain rfl fun a w hS hE => OpTo.pick true rfl (hE 22 (by kernel_rfl)) ⟨dOfW.of 34 rfl (hE 33 (by kernel_rfl)), Touch.refl _ _⟩) ?_
      exact FStepsX.nil
    intro f w4 hS hF hA
    obtain ⟨h34, -⟩ := hF
    have e34 : f 34 = .bool (decide (mulF Y5 Z6 = mulF Y6 Z5)) := h34
    clear h34
    clear hA
    replace B5 := Lib.hid (B5.out.touch hS notin_nil)
    replace B6 := Lib.hid (B6.out.touch hS notin_nil)
    replace HT := Lib.hid (HT.out.trans hS)
    clear hS
    simp only [setAll, List.setIfInBounds_toArray, List.set_cons_zero, List.set_cons_succ, e34]
    show wpList _ _ _ [_] _ _
    refine wpList_run (v := .bool (decide (mulF Y5 Z6 = mulF Y6 Z5))) rfl (exec_assignV rfl rfl) ?_
    refine wpList_nil ?_
    simp only [Act.put, List.setIfInBounds_toArray, List.set_cons_zero, List.set_cons_succ]
    clear e34
    go_wp2_with fail
    go_ret
    refine ⟨_, rfl, ?_, HT.out⟩
    unfold isB samePt
    rw [decide_eq_true ((rep_same_x QR5.out QR6.out).1 hxx), Bool.true_and]
    exact congrArg Value.bool (decide_eq_decide.2 (rep_same_y QR5.out QR6.out))
  · skip
    have K21 := Lib.hid (show decide (mulF X5 Z6 = mulF X6 Z5) = false from decide_eq_false hxx)
    refine wp_region_flowX (lookW [(5, pu (isP (g5))), (6, pu (isP (g6))), (11, pu (isV (.pointer (some ⟨g5, 0, none⟩)))), (12, pu (EV (X5))), (13, pu (isV (.pointer (some ⟨g6, 32, none⟩)))), (14, pu (EV (Z6))), (15, pu (EV (mulF (X5) (Z6)))), (16, pu (isV (.pointer (some ⟨g6, 0, none⟩)))), (17, pu (EV (X6))), (18, pu (isV (.pointer (some ⟨g5, 32, none⟩)))), (19, pu (EV (Z5))), (20, pu (EV (mulF (X6) (Z5)))), (21, pu (isB false)), (22, pu (isB false)), (23, pu (isU)), (24, pu (isU)), (25, pu (isU)), (26, pu (isU)), (27, pu (isU)), (28, pu (isU)), (29, pu (isU)), (30, pu (isU)), (31, pu (isU)), (32, pu (isU)), (33, pu (isU)), (34, pu (isB false))]) (by kernel_rfl) 24 [] (fun d _ _ _ _ h => by cases d <;> exact h) (by intro l hl; cases hl) [5, 6] [11, 12, 13, 14, 15, 16, 17, 18, 19, 20, 21, 22, 23, 24, 25, 26, 27, 28, 29, 30, 31, 32, 33, 34] [34] [] (by kernel_rfl) (by kernel_rfl) (by kernel_rfl) (by kernel_rfl) (by kernel_rfl) (by kernel_rfl) ⟨rfl, rfl, trivial⟩ ?_ ?_
    · refine FStepsX.cons rfl (FStepW.plain rfl fun a w hS hE => OpTo.pureG (v := .pointer (some ⟨g5, 0, none⟩)) 11 rfl (by have h5 : a.eval (.tmp 5) = .pointer (some ⟨g5, 0, none⟩) := hE 5 (by kernel_rfl); unfold execOp; simp only [h5]; go_simp) rfl) ?_
      refine FStepsX.cons rfl (FStepW.plain rfl fun a w hS hE => OpTo.rdE 12 (.tmp 11) rfl rfl (g5) 0 (hE 11 (by kernel_rfl)) ((fun W hW => RdE.q0 (B5.out.touch hW notin_nil) Q5.out) w hS) (fun _ h => h)) ?_
      refine FStepsX.cons rfl (FStepW.plain rfl fun a w hS hE => OpTo.pureG (v := .pointer (some ⟨g6, 32, none⟩)) 13 rfl (by have h6 : a.eval (.tmp 6) = .pointer (some ⟨g6, 0, none⟩) := hE 6 (by kernel_rfl); unfold execOp; simp only [h6]; go_simp) rfl) ?_
      refine FStepsX.cons rfl (FStepW.plain rfl fun a w hS hE => OpTo.rdE 14 (.tmp 13) rfl rfl (g6) 32 (hE 13 (by kernel_rfl)) ((fun W hW => RdE.q2 (B6.out.touch hW notin_nil) Q6.out) w hS) (fun _ h => h)) ?_
      refine FStepsX.cons rfl (FStepW.plain rfl fun a w hS hE => OpTo.call #[a.tmps.getD 12 undef, a.tmps.getD 14 undef] rfl Tryd.func23 (by kernel_rfl) (by kernel_rfl) (args2 ..) ((mul_v (hE 12 (by kernel_rfl)) (hE 14 (by kernel_rfl)) w).mono fun _ _ h => Gives.toW 15 rfl (fun _ _ h => h) h)) ?_
      refine FStepsX.cons rfl (FStepW.plain rfl fun a w hS hE => OpTo.pureG (v := .pointer (some ⟨g6, 0, none⟩)) 16 rfl (by have h6 : a.eval (.tmp 6) = .pointer (some ⟨g6, 0, none⟩) := hE 6 (by kernel_rfl); unfold execOp; simp only [h6]; go_simp) rfl) ?_
      refine FStepsX.cons rfl (FStepW.plain rfl fun a w hS hE => OpTo.rdE 17 (.tmp 16) rfl rfl (g6) 0 (hE 16 (by kernel_rfl)) ((fun W hW => RdE.q0 (B6.out.touch hW notin_nil) Q6.out) w hS) (fun _ h => h)) ?_
      refine FStepsX.cons rfl (FStepW.plain rfl fun a w hS hE => OpTo.pureG (v := .pointer (some ⟨g5, 32, none⟩)) 18 rfl (by have h5 : a.eval (.tmp 5) = .pointer (some ⟨g5, 0, none⟩) := hE 5 (by kernel_rfl); unfold execOp; simp only [h5]; go_simp) rfl) ?_
      refine FStepsX.cons rfl (FStepW.plain rfl fun a w hS hE => OpTo.rdE 19 (.tmp 18) rfl rfl (g5) 32 (hE 18 (by kernel_rfl)) ((fun W hW => RdE.q2 (B5.out.touch hW notin_nil) Q5.out) w hS) (fun _ h => h)) ?_
      refine FStepsX.cons rfl (FStepW.plain rfl fun a w hS hE => OpTo.call #[a.tmps.getD 17 undef, a.tmps.getD 19 undef] rfl Tryd.func23 (by kernel_rfl) (by kernel_rfl) (args2 ..) ((mul_v (hE 17 (by kernel_rfl)) (hE 19 (by kernel_rfl)) w).mono fun _ _ h => Gives.toW 20 rfl (fun _ _ h => h) h)) ?_
      refine FStepsX.cons rfl (FStepW.plain rfl fun a w hS hE => OpTo.call #[a.tmps.getD 15 undef, a.tmps.getD 20 undef] rfl Tryd.func24 (by kernel_rfl) (by kernel_rfl) (args2 ..) ((same_v (hE 15 (by kernel_rfl)) (hE 20 (by kernel_rfl)) K21.out w).mono fun _ _ h => Gives.toW 21 rfl (fun _ _ h => h) h)) ?_
      refine FStepsX.cons rfl (FStepW.plain rfl fun a w hS hE => OpTo.move rfl ⟨dOfW.of 22 rfl (hE 21 (by kernel_rfl)), Touch.refl _ _⟩) ?_
      refine FStepsX.cons rfl (FStepW.no 22 rfl rfl (fun _ _ h => h) (fun _ => dOfW.of 23 rfl rfl)) ?_
      refine FStepsX.cons rfl (FStepW.no 22 rfl rfl (fun _ _ h => h) (fun _ => dOfW.of 24 rfl rfl)) ?_
      refine FStepsX.cons rfl (FStepW.no 22 rfl rfl (fun _ _ h => h) (fun _ => dOfW.of 25 rfl rfl)) ?_
      refine FStepsX.cons rfl (FStepW.no 22 rfl rfl (fun _ _ h => h) (fun _ => dOfW.of 26 rfl rfl)) ?_
      refine FStepsX.cons rfl (FStepW.no 22 rfl rfl (fun _ _ h => h) (fun _ => dOfW.of 27 rfl rfl)) ?_
      refine FStepsX.cons rfl (FStepW.no 22 rfl rfl (fun _ _ h => h) (fun _ => dOfW.of 28 rfl rfl)) ?_
      refine FStepsX.cons rfl (FStepW.no 22 rfl rfl (fun _ _ h => h) (fun _ => dOfW.of 29 rfl rfl)) ?_
      refine FStepsX.cons rfl (FStepW.no 22 rfl rfl (fun _ _ h => h) (fun _ => dOfW.of 30 rfl rfl)) ?_
      refine FStepsX.cons rfl (FStepW.no 22 rfl rfl (fun _ _ h => h) (fun _ => dOfW.of 31 rfl rfl)) ?_
      refine FStepsX.cons rfl (FStepW.no 22 rfl rfl (fun _ _ h => h) (fun _ => dOfW.of 32 rfl rfl)) ?_
      refine FStepsX.cons rfl (FStepW.no 22 rfl rfl (fun _ _ h => h) (fun _ => dOfW.of 33 rfl rfl)) ?_
      refine FStepsX.cons rfl (FStepW.plain rfl fun a w hS hE => OpTo.pick false rfl (hE 22 (by kernel_rfl)) ⟨dOfW.of 34 rfl (Eq.refl (Value.bool false)), Touch.refl _ _⟩) ?_
      exact FStepsX.nil
    intro f w4 hS hF hA
    obtain ⟨h34, -⟩ := hF
    have e34 : f 34 = .bool false := h34
    clear h34
    clear hA
    replace B5 := Lib.hid (B5.out.touch hS notin_nil)
    replace B6 := Lib.hid (B6.out.touch hS notin_nil)
    replace HT := Lib.hid (HT.out.trans hS)
    clear hS
    simp only [setAll, List.setIfInBounds_toArray, List.set_cons_zero, List.set_cons_succ, e34]
    show wpList _ _ _ [_] _ _
    refine wpList_run (v := .bool false) rfl (exec_assignV rfl rfl) ?_
    refine wpList_nil ?_
    simp only [Act.put, List.setIfInBounds_toArray, List.set_cons_zero, List.set_cons_succ]
    clear e34
    go_wp2_with fail
    go_ret
    refine ⟨_, rfl, ?_, HT.out⟩
    unfold isB samePt
    rw [decide_eq_false (fun h => hxx ((rep_same_x QR5.out QR6.out).2 h)), Bool.false_and]
    rfl
end Go.Proofs.YtbgpgbfiadhddaaDoor
/- Point.Encode. -/
namespace Go.Proofs.YtbgpgbfiadhddaaDoor
open Go Go.RowKit
set_option maxRecDepth 100000 in
set_option maxHeartbeats 4000000 in
theorem penc_v {P : Pt} {x : Value} (hx : PtV P x) (w : World) : Calls Tryd.prog 30 #[x] w (Gives w (isS (encS P))) := by
  obtain ⟨b1, l1, h1, rfl⟩ := hx
  have P1 := Lib.hid h1
  clear h1
  unfold ptV
  go_enter Tryd.func30, Tryd.ntmps30
  go_upto_region 0 with fail
  refine wp_region_list ?_
  refine wpList_run rfl (exec_box rfl rfl) ?_
  refine wpList_run (v := .string ⟨#[]⟩) rfl (exec_assignV rfl rfl) ?_
  refine wpList_nil ?_
  simp only [Act.put, List.setIfInBounds_toArray, List.set_cons_zero, List.set_cons_succ]
  obtain ⟨w1, g1, hW, eg1, b1, ht, hb1⟩ := start1 w 29 (ptA b1 l1)
  rw [← hW]
  rw [← eg1]
  have HT := Lib.hid ht
  have B1 := Lib.hid b1
  have HB1 := Lib.hid hb1
  clear hW eg1 b1 ht hb1
  go_upto_region 1 with fail
  refine wp_region_list (wpList_flowP 3 (lookW [(1, pu (isP (g1))), (3, newS w1.heap.size 27 (cellsZ zl).toArray), (6, pu (PtV (P))), (7, pu (QuV (P)))]) [1] [6, 7, 3] [7, 3] (by kernel_rfl) (by kernel_rfl) (by kernel_rfl) ⟨rfl, trivial⟩ ?_ ?_)
  · refine FStepsW.cons (FStepW.plain rfl fun a w hS hE => OpTo.rdP 6 (.tmp 1) rfl rfl (g1) (hE 1 (by kernel_rfl)) (B1.out.touch hS notin_nil) P1.out (fun _ h => h)) ?_
    refine FStepsW.cons (FStepW.plain rfl fun a w hS hE => OpTo.call #[a.tmps.getD 6 undef] rfl Tryd.func22 (by kernel_rfl) (by kernel_rfl) (args1 ..) ((whole_v (hE 6 (by kernel_rfl)) w).mono fun _ _ h => Gives.toW 7 rfl (fun _ _ h => h) h)) ?_
    refine FStepsW.cons (FStepW.plain rfl fun a w hS hE => OpTo.allocG 3 27 (cellsZ zl).toArray rfl hS (exec_alloc_quad rfl) rfl) ?_
    exact FStepsW.nil
  intro f w2 hS hF
  obtain ⟨h7, h3, -⟩ := hF
  obtain ⟨l7, q7, e7⟩ := h7
  obtain ⟨g3, e3, z3, b3⟩ := h3
  have NE1_3 := Lib.hid (ne_new B1.out b3)
  replace B1 := Lib.hid (B1.out.touch hS notin_nil)
  have B3 := Lib.hid z3
  have HB3 := Lib.hid (Nat.le_trans HT.out.size b3)
  clear z3 b3
  replace HT := Lib.hid (HT.out.trans hS)
  clear hS
  simp only [setAll, List.setIfInBounds_toArray, List.set_cons_zero, List.set_cons_succ, e7, e3]
  show wpList _ _ _ [_] _ _
  obtain ⟨X3, Y3, Z3, T3, qr3, ql3⟩ := q7
  have QR3 := Lib.hid qr3
  have Q3 := Lib.hid ql3
  clear qr3 ql3
  refine wpList_store_row rfl 27 (.tmp 3) (.tmp 7) rfl g3 (cellsZ l7).toArray rfl rfl 27 (cellsZ zl).toArray B3.out (by rw [cellsZ_size, Q3.out.len]; exact infoQ) ((cellsZ_size _).trans ((zl_len).trans ((Q3.out.len).symm.trans (cellsZ_size _).symm))) (cellsZ_one l7) ?_
  refine wpList_nil ?_
  simp only [Act.put]
  have B1' := (B1.out.frow NE1_3.out (cellsZ l7).toArray)
  have B3' := (B3.out.setRow (cellsZ l7).toArray)
  have HT' := (HT.out.setRowE (.inr HB3.out) (cellsZ l7).toArray)
  obtain ⟨w3, hw3⟩ : ∃ w3, w3 = (w2.setRow g3 (cellsZ l7).toArray) := ⟨_, rfl⟩
  rw [← hw3] at HT' B1' B3'
  rw [← hw3]
  clear hw3 HT B1 B3
  have B1 := Lib.hid B1'
  clear B1'
  have B3 := Lib.hid B3'
  clear B3'
  have HT := Lib.hid HT'
  clear HT'
  clear B1 HB1
  clear e7 e3
  go_upto_region 2 with fail
  refine wp_region_list (wpList_flowP 4 (lookW [(3, pu (isP (g3))), (4, newS w3.heap.size 25 (cellsZ (List.replicate 16 0)).toArray), (8, pu (isV (.pointer (some ⟨g3, 32, none⟩)))), (9, pu (EV (Z3))), (10, pu (EV (invF (Z3))))]) [3] [8, 9, 10, 4] [10, 4] (by kernel_rfl) (by kernel_rfl) (by kernel_rfl) ⟨rfl, trivial⟩ ?_ ?_)
  · refine FStepsW.cons (FStepW.plain rfl fun a w hS hE => OpTo.pureG (v := .pointer (some ⟨g3, 32, none⟩)) 8 rfl (by have h3 : a.eval (.tmp 3) = .pointer (some ⟨g3, 0, none⟩) := hE 3 (by kernel_rfl); unfold execOp; simp only [h3]; go_simp) rfl) ?_
    refine FStepsW.cons (FStepW.plain rfl fun a w hS hE => OpTo.rdE 9 (.tmp 8) rfl rfl (g3) 32 (hE 8 (by kernel_rfl)) ((fun W hW => RdE.q2 (B3.out.touch hW notin_nil) Q3.out) w hS) (fun _ h => h)) ?_
    refine FStepsW.cons (FStepW.plain rfl fun a w hS hE => OpTo.call #[a.tmps.getD 9 undef] rfl Tryd.func38 (by kernel_rfl) (by kernel_rfl) (args1 ..) ((inv_v (hE 9 (by kernel_rfl)) w).mono fun _ _ h => Gives.toW 10 rfl (fun _ _ h => h) h)) ?_
    refine FStepsW.cons (FStepW.plain rfl fun a w hS hE => OpTo.allocG 4 25 (cellsZ (List.replicate 16 0)).toArray rfl hS (exec_alloc_el rfl) rfl) ?_
    exact FStepsW.nil
  intro f w4 hS hF
  obtain ⟨h10, h4, -⟩ := hF
  obtain ⟨l10, e10, r10⟩ := EV.list (n := invF (Z3)) (v := f 10) h10
  have R10 := Lib.hid r10
  clear r10 h10
  obtain ⟨g4, e4, z4, b4⟩ := h4
  have NE3_4 := Lib.hid (ne_new B3.out b4)
  replace B3 := Lib.hid (B3.out.touch hS notin_nil)
  have B4 := Lib.hid z4
  have HB4 := Lib.hid (Nat.le_trans HT.out.size b4)
  clear z4 b4
  replace HT := Lib.hid (HT.out.trans hS)
  clear hS
  simp only [setAll, List.setIfInBounds_toArray, List.set_cons_zero, List.set_cons_succ, e10, e4]
  show wpList _ _ _ [_] _ _
  refine wpList_store_row rfl 25 (.tmp 4) (.tmp 10) rfl g4 (cellsZ l10).toArray rfl rfl 25 (cellsZ (List.replicate 16 0)).toArray B4.out (by rw [cellsZ_size, R10.out.1.len]; exact infoE) ((cellsZ_size _).trans (((List.length_replicate ..)).trans ((R10.out.1.len).symm.trans (cellsZ_size _).symm))) (cellsZ_one l10) ?_
  refine wpList_nil ?_
  simp only [Act.put]
  have B3' := (B3.out.frow NE3_4.out (cellsZ l10).toArray)
  have B4' := (B4.out.setRow (cellsZ l10).toArray)
  have HT' := (HT.out.setRowE (.inr HB4.out) (cellsZ l10).toArray)
  obtain ⟨w5, hw5⟩ : ∃ w5, w5 = (w4.setRow g4 (cellsZ l10).toArray) := ⟨_, rfl⟩
  rw [← hw5] at HT' B3' B4'
  rw [← hw5]
  clear hw5 HT B3 B4
  have B3 := Lib.hid B3'
  clear B3'
  have B4 := Lib.hid B4'
  clear B4'
  have HT := Lib.hid HT'
  clear HT'
  clear e10 e4
  go_upto_region 3 with fail
  refine wp_region_list (wpList_flowP 5 (lookW [(3, pu (isP (g3))), (4, pu (isP (g4))), (11, pu (isV (.pointer (some ⟨g3, 16, none⟩)))), (12, pu (EV (Y3))), (13, pu (EV (invF (Z3)))), (14, pu (EV (mulF (Y3) (invF (Z3))))), (15, pu (isS (toS (mulF (Y3) (invF (Z3))))))]) [3, 4] [11, 12, 13, 14, 15] [15] (by kernel_rfl) (by kernel_rfl) (by kernel_rfl) ⟨rfl, rfl, trivial⟩ ?_ ?_)
  · refine FStepsW.cons (FStepW.plain rfl fun a w hS hE => OpTo.pureG (v := .pointer (some ⟨g3, 16, none⟩)) 11 rfl (by have h3 : a.eval (.tmp 3) = .pointer (some ⟨g3, 0, none⟩) := hE 3 (by kernel_rfl); unfold execOp; simp only [h3]; go_simp) rfl) ?_
    refine FStepsW.cons (FStepW.plain rfl fun a w hS hE => OpTo.rdE 12 (.tmp 11) rfl rfl (g3) 16 (hE 11 (by kernel_rfl)) ((fun W hW => RdE.q1 (B3.out.touch hW notin_nil) Q3.out) w hS) (fun _ h => h)) ?_
    refine FStepsW.cons (FStepW.plain rfl fun a w hS hE => OpTo.rdE 13 (.tmp 4) rfl rfl (g4) 0 (hE 4 (by kernel_rfl)) ((fun W hW => RdE.el (B4.out.touch hW notin_nil) R10.out.1 R10.out.2) w hS) (fun _ h => h)) ?_
    refine FStepsW.cons (FStepW.plain rfl fun a w hS hE => OpTo.call #[a.tmps.getD 12 undef, a.tmps.getD 13 undef] rfl Tryd.func23 (by kernel_rfl) (by kernel_rfl) (args2 ..) ((mul_v (hE 12 (by kernel_rfl)) (hE 13 (by kernel_rfl)) w).mono fun _ _ h => Gives.toW 14 rfl (fun _ _ h => h) h)) ?_
    refine FStepsW.cons (FStepW.plain rfl fun a w hS hE => OpTo.call #[a.tmps.getD 14 undef] rfl Tryd.func51 (by kernel_rfl) (by kernel_rfl) (args1 ..) ((bytes_v (hE 14 (by kernel_rfl)) w).mono fun _ _ h => Gives.toW 15 rfl (fun _ _ h => h) h)) ?_
    exact FStepsW.nil
  intro f w6 hS hF
  obtain ⟨h15, -⟩ := hF
  have e15 : f 15 = .string (toS (mulF (Y3) (invF (Z3)))) := h15
  clear h15
  replace B3 := Lib.hid (B3.out.touch hS notin_nil)
  replace B4 := Lib.hid (B4.out.touch hS notin_nil)
  replace HT := Lib.hid (HT.out.trans hS)
  clear hS
  simp only [setAll, List.setIfInBounds_toArray, List.set_cons_zero, List.set_cons_succ, e15]
  clear e15
  rw [rep_y QR3.out]
  show wpList _ _ _ [_, _] _ _
  obtain ⟨wb, g5, c5, hcv, ht, hge, hlt, hc, hf⟩ := bytes_new w6 (toS P.y.val) 32 (toS_size _)
  refine wpList_run rfl (exec_conv rfl rfl hcv) ?_
  refine wpList_run (v := .slice (some ⟨g5, 0, none⟩) 32 c5) rfl (exec_assignV rfl rfl) ?_
  refine wpList_nil ?_
  simp only [Act.put, List.setIfInBounds_toArray, List.set_cons_zero, List.set_cons_succ]
  clear hcv
  have HC := Lib.hid hc
  have HF := Lib.hid hf
  have HL := Lib.hid hlt
  have HG := Lib.hid (Nat.le_trans HT.out.size hge)
  replace B3 := Lib.hid (B3.out.touch ht notin_nil)
  replace B4 := Lib.hid (B4.out.touch ht notin_nil)
  replace HT := Lib.hid (HT.out.trans ht)
  clear hc hf hlt hge ht
  go_upto_region 4 with fail
  rcases Nat.mod_two_eq_zero_or_one P.x.val with hb | hb
  · skip
    have HB := Lib.hid hb
    have HO := Lib.hid (show decide (mulF X3 (invF Z3) % 2 = 1) = false by rw [rep_x QR3.out, hb]; rfl)
    clear hb
    refine wp_region_list (wpList_flowP 5 (lookW [(3, pu (isP (g3))), (4, pu (isP (g4))), (17, pu (isV (.pointer (some ⟨g3, 0, none⟩)))), (18, pu (EV (X3))), (19, pu (EV (invF (Z3)))), (20, pu (EV (mulF (X3) (invF (Z3))))), (21, pu (isB false))]) [3, 4] [17, 18, 19, 20, 21] [21] (by kernel_rfl) (by kernel_rfl) (by kernel_rfl) ⟨rfl, rfl, trivial⟩ ?_ ?_)
    · refine FStepsW.cons (FStepW.plain rfl fun a w hS hE => OpTo.pureG (v := .pointer (some ⟨g3, 0, none⟩)) 17 rfl (by have h3 : a.eval (.tmp 3) = .pointer (some ⟨g3, 0, none⟩) := hE 3 (by kernel_rfl); unfold execOp; simp only [h3]; go_simp) rfl) ?_
      refine FStepsW.cons (FStepW.plain rfl fun a w hS hE => OpTo.rdE 18 (.tmp 17) rfl rfl (g3) 0 (hE 17 (by kernel_rfl)) ((fun W hW => RdE.q0 (B3.out.touch hW notin_nil) Q3.out) w hS) (fun _ h => h)) ?_
      refine FStepsW.cons (FStepW.plain rfl fun a w hS hE => OpTo.rdE 19 (.tmp 4) rfl rfl (g4) 0 (hE 4 (by kernel_rfl)) ((fun W hW => RdE.el (B4.out.touch hW notin_nil) R10.out.1 R10.out.2) w hS) (fun _ h => h)) ?_
      refine FStepsW.cons (FStepW.plain rfl fun a w hS hE => OpTo.call #[a.tmps.getD 18 undef, a.tmps.getD 19 undef] rfl Tryd.func23 (by kernel_rfl) (by kernel_rfl) (args2 ..) ((mul_v (hE 18 (by kernel_rfl)) (hE 19 (by kernel_rfl)) w).mono fun _ _ h => Gives.toW 20 rfl (fun _ _ h => h) h)) ?_
      refine FStepsW.cons (FStepW.plain rfl fun a w hS hE => OpTo.call #[a.tmps.getD 20 undef] rfl Tryd.func53 (by kernel_rfl) (by kernel_rfl) (args1 ..) ((odd_v (hE 20 (by kernel_rfl)) HO.out w).mono fun _ _ h => Gives.toW 21 rfl (fun _ _ h => h) h)) ?_
      exact FStepsW.nil
    intro f w7 hS hF
    obtain ⟨h21, -⟩ := hF
    have e21 : f 21 = .bool false := h21
    clear h21
    replace B3 := Lib.hid (B3.out.touch hS notin_nil)
    replace B4 := Lib.hid (B4.out.touch hS notin_nil)
    replace HT := Lib.hid (HT.out.trans hS)
    have HW := Lib.hid hS
    clear hS
    simp only [setAll, List.setIfInBounds_toArray, List.set_cons_zero, List.set_cons_succ, e21]
    show wpList _ _ _ [] _ _
    refine wpList_nil ?_
    clear e21
    have ht : Touch [] wb w7 := HW.out
    clear HW
    have hc : ∀ j, j < 32 → w7.cell? ⟨g5, j, none⟩ = some (.int .u8 ((P.y.val / 2 ^ (8 * j) % 256 : Nat) : Int)) := fun j hj => by rw [ht.cell HL.out (by simp), HC.out j hj, toS_at _ _ hj]
    have HC' := Lib.hid hc
    have hlen : g5 < w7.heap.size := Nat.lt_of_lt_of_le HL.out ht.size
    have hcv := text_of w7 g5 c5 (encN P) (fun j hj => by
      rw [HC'.out j hj]
      unfold encN
      rw [HB.out, Nat.mul_zero, Nat.add_zero])
    clear hc ht hlen
    go_wp2_with fail
    go_ret
    exact ⟨_, rfl, rfl, HT.out⟩
  · skip
    have HB := Lib.hid hb
    have HO := Lib.hid (show decide (mulF X3 (invF Z3) % 2 = 1) = true by rw [rep_x QR3.out, hb]; rfl)
    clear hb
    refine wp_region_list (wpList_flowP 5 (lookW [(3, pu (isP (g3))), (4, pu (isP (g4))), (17, pu (isV (.pointer (some ⟨g3, 0, none⟩)))), (18, pu (EV (X3))), (19, pu (EV (invF (Z3)))), (20, pu (EV (mulF (X3) (invF (Z3))))), (21, pu (isB true))]) [3, 4] [17, 18, 19, 20, 21] [21] (by kernel_rfl) (by kernel_rfl) (by kernel_rfl) ⟨rfl, rfl, trivial⟩ ?_ ?_)
    · refine FStepsW.cons (FStepW.plain rfl fun a w hS hE => OpTo.pureG (v := .pointer (some ⟨g3, 0, none⟩)) 17 rfl (by have h3 : a.eval (.tmp 3) = .pointer (some ⟨g3, 0, none⟩) := hE 3 (by kernel_rfl); unfold execOp; simp only [h3]; go_simp) rfl) ?_
      refine FStepsW.cons (FStepW.plain rfl fun a w hS hE => OpTo.rdE 18 (.tmp 17) rfl rfl (g3) 0 (hE 17 (by kernel_rfl)) ((fun W hW => RdE.q0 (B3.out.touch hW notin_nil) Q3.out) w hS) (fun _ h => h)) ?_
      refine FStepsW.cons (FStepW.plain rfl fun a w hS hE => OpTo.rdE 19 (.tmp 4) rfl rfl (g4) 0 (hE 4 (by kernel_rfl)) ((fun W hW => RdE.el (B4.out.touch hW notin_nil) R10.out.1 R10.out.2) w hS) (fun _ h => h)) ?_
      refine FStepsW.cons (FStepW.plain rfl fun a w hS hE => OpTo.call #[a.tmps.getD 18 undef, a.tmps.getD 19 undef] rfl Tryd.func23 (by kernel_rfl) (by kernel_rfl) (args2 ..) ((mul_v (hE 18 (by kernel_rfl)) (hE 19 (by kernel_rfl)) w).mono fun _ _ h => Gives.toW 20 rfl (fun _ _ h => h) h)) ?_
      refine FStepsW.cons (FStepW.plain rfl fun a w hS hE => OpTo.call #[a.tmps.getD 20 undef] rfl Tryd.func53 (by kernel_rfl) (by kernel_rfl) (args1 ..) ((odd_v (hE 20 (by kernel_rfl)) HO.out w).mono fun _ _ h => Gives.toW 21 rfl (fun _ _ h => h) h)) ?_
      exact FStepsW.nil
    intro f w7 hS hF
    obtain ⟨h21, -⟩ := hF
    have e21 : f 21 = .bool true := h21
    clear h21
    replace B3 := Lib.hid (B3.out.touch hS notin_nil)
    replace B4 := Lib.hid (B4.out.touch hS notin_nil)
    replace HT := Lib.hid (HT.out.trans hS)
    have HW := Lib.hid hS
    clear hS
    simp only [setAll, List.setIfInBounds_toArray, List.set_cons_zero, List.set_cons_succ, e21]
    show wpList _ _ _ [] _ _
    refine wpList_nil ?_
    clear e21
    have ht : Touch [] wb w7 := HW.out
    clear HW
    have hc : ∀ j, j < 32 → w7.cell? ⟨g5, j, none⟩ = some (.int .u8 ((P.y.val / 2 ^ (8 * j) % 256 : Nat) : Int)) := fun j hj => by rw [ht.cell HL.out (by simp), HC.out j hj, toS_at _ _ hj]
    have HC' := Lib.hid hc
    have hlen : g5 < w7.heap.size := Nat.lt_of_lt_of_le HL.out ht.size
    have hf31 : w7.frozen? ⟨g5, 31, none⟩ = false := by rw [ht.frozen HL.out]; exact HF.out 31 (by omega)
    obtain ⟨v, hv⟩ : ∃ v, v = P.y.val / 2 ^ (8 * 31) := ⟨_, rfl⟩
    have hv128 : v < 128 := hv ▸ y_top P
    have hc31 : w7.cell? ⟨g5, 31, none⟩ = some (.int .u8 (v : Int)) := by rw [hc 31 (by omega), ← hv, Nat.mod_eq_of_lt (by omega)]
    have hor := or128_all ⟨v, hv128⟩
    simp only at hor
    have hcv := text_of (w7.setCell ⟨g5, 31, none⟩ (.int .u8 ((v : Int) + 128))) g5 c5 (encN P) (fun j hj => by
      by_cases h31 : j = 31
      · subst h31
        rw [World.cell?_setCell_same' _ _ _ (by rw [hc31]; rfl)]
        unfold encN
        rw [HB.out, enc_top _ 1 (Nat.lt_trans P.y.isLt PP_255) (by omega), ← hv, Nat.mod_eq_of_lt (show v < 256 by omega)]
        rfl
      · refine (World.cell?_setCell_other (h := show (⟨g5, 31, none⟩ : Addr) ≠ ⟨g5, j, none⟩ from fun e => h31 (by injection e with _ e; exact e.symm)) ..).trans ?_
        rw [HC'.out j hj]
        unfold encN
        rw [HB.out, enc_low _ 1 j (by omega)])
    have HT' := Lib.hid (HT.out.setCell (p := ⟨g5, 31, none⟩) (.inr HG.out) (.int .u8 ((v : Int) + 128)))
    clear hc ht hlen hv hv128
    go_wp2_with fail
    go_ret
    exact ⟨_, rfl, rfl, HT'.out⟩
end Go.Proofs.YtbgpgbfiadhddaaDoor
