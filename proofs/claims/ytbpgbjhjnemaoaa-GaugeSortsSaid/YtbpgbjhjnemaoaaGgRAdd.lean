/- Add: of the document. -/
import Derived.Test.YtbpgbjhjnemaoaaGgSame
import Derived.Deep.DeepCutAuto
import Derived.Deep.CutBlock
import Derived.Deep.LoopGhost
namespace Go.Proofs.Ytbpgbjhjnemaoaa
open Go Go.RowKit
theorem radd_any (x y : Int) (hx : 0 ≤ x) (hx' : x < 18446744073709551616) (hy : 0 ≤ y) (hy' : y < 18446744073709551616) (w : World) :
    Calls Try.prog 34 #[.int .u64 x, .int .u64 y] w fun e w' => e = .returned (.int .u64 (addS x y)) ∧ w' = w := by
  have q1 : IntKind.u64.wrap (18446744073709551615 - y) = 18446744073709551615 - y := by rw [IntKind.wrap_u64]; omega
  unfold addS
  by_cases h : 18446744073709551615 - y < x
  · have d : decide (18446744073709551615 - y < x) = true := decide_eq_true h
    rw [if_neg (by omega)]
    clear h hx hx' hy hy'
    go_enter Try.func34, Try.ntmps34
    go_wp2_with fail
    go_ret
    exact ⟨rfl, rfl⟩
  · have d : decide (18446744073709551615 - y < x) = false := decide_eq_false h
    have q2 : IntKind.u64.wrap (x + y) = x + y := by rw [IntKind.wrap_u64]; omega
    rw [if_pos (by omega)]
    clear h hx hx' hy hy'
    go_enter Try.func34, Try.ntmps34
    go_wp2_with fail
    go_ret
    exact ⟨rfl, rfl⟩
theorem okR_eq (f : Nat) (h : f < 18446744073709551616) : okF f = (!isN f && (!(FloatKind.f64.format.order f 0 == some .lt) && !(FloatKind.f64.format.order f 4607182418800017408 == some .gt))) := by
  rw [ordf_lt f _ h (by decide), ordf_gt f _ h (by decide), show isN 0 = false by decide, show sv 0 = 0 by decide, show isN 4607182418800017408 = false by decide, show sv 4607182418800017408 = 4607182418800017408 by decide]
  unfold okF
  cases isN f
  · simp only [Bool.not_false, Bool.true_and]
    rw [Bool.eq_iff_iff]; simp
  · rfl
theorem addV_first1 {m l h : Nat} {n : Int} {x f : Nat} (hb : (okF f && !isN x) = true) (hn : n = 0) : .tuple #[gV x x x 1, .int .i64 0] = addV m l h n x f := by
  unfold addV; rw [hb, if_pos rfl, if_pos hn]
theorem touch_row {a w : World} {g : Nat} (h : Touch [] a w) (hg : a.heap.size ≤ g) (cs : Array Value) : Touch [] a (w.setRow g cs) :=
  ⟨h.os, h.tape, h.output, by simpa using h.size, fun k hk hn => (setRow_other w g k cs (by omega)).trans (h.block k hk hn)⟩
theorem radd_res (tmps : Array Value) (w : World) (R : Nat) (cs : Array Value) (h6 : tmps.getD 6 undef = .pointer (some ⟨R, 0, none⟩)) (h7 : tmps.getD 7 undef = .int .i64 0) (hB : Blk w R 35 cs) (hs : cs.size = 4) :
    (results Try.f19 tmps).run Try.prog w = .ok (.tuple #[.agg cs, .int .i64 0]) w := by
  have e6 : tmps[6]?.getD undef = .pointer (some ⟨R, 0, none⟩) := by simpa using h6
  have e7 : tmps[7]?.getD undef = .int .i64 0 := by simpa using h7
  simp [results, Try.results19, e6, e7, asAddr, run_loadVar_row (P := Try.prog) w R 35 35 cs (0, 0) _ hB Try.underlying35 rfl (by rw [hs]; kernel_rfl)]
set_option maxRecDepth 100000 in
set_option maxHeartbeats 4000000 in
theorem radd2_any (m l h x f : Nat) (n : Int) (hl : l < 18446744073709551616) (hh : h < 18446744073709551616) (n0 : 0 ≤ n) (n1 : n < 18446744073709551616) (hx : x < 18446744073709551616) (hf : f < 18446744073709551616) (wA : World) :
    Calls Try.prog 19 #[gV m l h n, .float .f64 x, .float .f64 f] wA fun e w' => e = .returned (addV m l h n x f) ∧ Touch [] wA w' := by
  have HKf := Lib.hid (fun W : World => rkind_any f hf W)
  have HKx := Lib.hid (fun W : World => rkind_any x hx W)
  have HM := Lib.hid (fun W : World => rmean_any m x f hx W)
  have HL := Lib.hid (fun W : World => rless_any x l hx hl W)
  have HH := Lib.hid (fun W : World => rless_any h x hh hx W)
  have HA := Lib.hid (fun W : World => radd_any n 1 n0 n1 (by decide) (by decide) W)
  have ho := okR_eq f hf
  have k7 := fk_7 x
  have f7 := fk_7 f
  have vb := @addV_bad m l h n x f
  have vf := @addV_first1 m l h n x f
  have vm := @addV_more m l h n x f
  unfold lowF highF at vm
  obtain ⟨hb1, hb2⟩ := box2 wA 35 #[.float .f64 m, .float .f64 l, .float .f64 h, .int .u64 n] #[.float .f64 0, .float .f64 0, .float .f64 0, .int .u64 0]
  have HB1 := Lib.hid hb1
  have HB2 := Lib.hid hb2
  obtain ⟨v, hv⟩ : ∃ v, v = addV m l h n x f := ⟨_, rfl⟩
  rw [← hv] at vb vf vm ⊢
  obtain ⟨mm, hmm⟩ : ∃ mm, mm = meanF m x f := ⟨_, rfl⟩
  rw [← hmm] at HM vm
  obtain ⟨aa, haa⟩ : ∃ aa, aa = addS n 1 := ⟨_, rfl⟩
  rw [← haa] at HA vm
  obtain ⟨j, hj⟩ : ∃ j, j = fk x := ⟨_, rfl⟩
  rw [← hj] at HKx k7
  obtain ⟨k, hk⟩ : ∃ k, k = fk f := ⟨_, rfl⟩
  rw [← hk] at HKf f7
  clear hmm haa hj hv hk hl hh hx hf n1 hb1 hb2
  by_cases c1 : isN f = true
  · obtain rfl : k = 7 := f7.2 c1
    have HV := Lib.hid (vb (by rw [ho, c1]; rfl))
    clear c1 f7 k7 vb vf vm ho
    go_enter Try.func19, Try.ntmps19
    go_wp2_with fail
    refine (HKf.out _).mono ?_
    rintro e w1 ⟨rfl, rfl⟩
    go_wp2_with fail
    exact bodyPost_ret (v := _) (by simp [results, Try.results19, go_sem]) rfl ⟨congrArg Ending.returned HV.out, ((Touch.refl [] wA).alloc _).alloc _⟩
  · have c1' : isN f = false := by simpa using c1
    rw [c1'] at ho
    have dk : (k == 7) = false := by
      have : k ≠ 7 := fun h => c1 (f7.1 h)
      simpa using this
    clear c1 c1' f7
    by_cases c2 : (FloatKind.f64.format.order f 0 == some .lt) = true
    · have HV := Lib.hid (vb (by rw [ho, c2]; rfl))
      clear k7 vb vf vm ho
      go_enter Try.func19, Try.ntmps19
      go_wp2_with fail
      refine (HKf.out _).mono ?_
      rintro e w1 ⟨rfl, rfl⟩
      go_wp2_with fail
      exact bodyPost_ret (v := _) (by simp [results, Try.results19, go_sem]) rfl ⟨congrArg Ending.returned HV.out, ((Touch.refl [] wA).alloc _).alloc _⟩
    · have c2' : (FloatKind.f64.format.order f 0 == some .lt) = false := by simpa using c2
      rw [c2'] at ho
      clear c2
      by_cases c3 : (FloatKind.f64.format.order f 4607182418800017408 == some .gt) = true
      · have HV := Lib.hid (vb (by rw [ho, c3]; rfl))
        clear k7 vb vf vm ho
        go_enter Try.func19, Try.ntmps19
        go_wp2_with fail
        refine (HKf.out _).mono ?_
        rintro e w1 ⟨rfl, rfl⟩
        go_wp2_with fail
        exact bodyPost_ret (v := _) (by simp [results, Try.results19, go_sem]) rfl ⟨congrArg Ending.returned HV.out, ((Touch.refl [] wA).alloc _).alloc _⟩
      · have c3' : (FloatKind.f64.format.order f 4607182418800017408 == some .gt) = false := by simpa using c3
        rw [c3'] at ho
        rw [ho] at vb vf vm
        clear c3 ho
        by_cases hn : isN x = true
        · obtain rfl : j = 7 := k7.2 hn
          have HV := Lib.hid (vb (by rw [hn]; rfl))
          clear k7 hn vb vf vm
          go_enter Try.func19, Try.ntmps19
          go_wp2_with fail
          refine (HKf.out _).mono ?_
          rintro e w1 ⟨rfl, rfl⟩
          go_wp2_with fail
          refine (HKx.out _).mono ?_
          rintro e w1 ⟨rfl, rfl⟩
          go_wp2_with fail
          exact bodyPost_ret (v := _) (by simp [results, Try.results19, go_sem]) rfl ⟨congrArg Ending.returned HV.out, ((Touch.refl [] wA).alloc _).alloc _⟩
        · have hn' : isN x = false := by simpa using hn
          have dj : (j == 7) = false := by
            have : j ≠ 7 := fun h => hn (k7.1 h)
            simpa using this
          rw [hn'] at vb vf vm
          clear k7 hn hn' vb
          by_cases hz : n = 0
          · have HV := Lib.hid (vf rfl hz)
            subst hz
            clear vf vm
            go_enter Try.func19, Try.ntmps19
            go_wp2_with fail
            refine (HKf.out _).mono ?_
            rintro e w1 ⟨rfl, rfl⟩
            go_wp2_with fail
            refine (HKx.out _).mono ?_
            rintro e w1 ⟨rfl, rfl⟩
            go_wp2_with fail
            exact bodyPost_ret (v := _) (by simp [results, Try.results19, go_sem]) rfl ⟨congrArg Ending.returned HV.out, ((Touch.refl [] wA).alloc _).alloc _⟩
          · have HV := Lib.hid (vm rfl hz)
            have dz : (n == 0) = false := by simpa using hz
            obtain ⟨p, hp⟩ : ∃ p, p = flt x l := ⟨_, rfl⟩
            obtain ⟨q, hq⟩ : ∃ q, q = flt h x := ⟨_, rfl⟩
            rw [← hp] at HL HV
            rw [← hq] at HH HV
            clear vf vm hz hp hq
            cases p <;> cases q
            all_goals
              simp only [if_true, Bool.false_eq_true, if_false] at HV
              go_enter Try.func19, Try.ntmps19
              go_wp2_with fail
              refine (HKf.out _).mono ?_
              rintro e w1 ⟨rfl, rfl⟩
              go_wp2_with fail
              refine (HKx.out _).mono ?_
              rintro e w1 ⟨rfl, rfl⟩
              go_wp2_with fail
              -- GF radd5
              refine wp_region_flowT (by kernel_rfl) 14 (lookW [(3, pu (isV (.pointer (some ⟨wA.heap.size, 0, none⟩)))), (1, pu (isV (.float .f64 x))), (2, pu (isV (.float .f64 f))), (33, pu (isV (.pointer (some ⟨wA.heap.size, 0, none⟩)))), (34, pu (isV (.float .f64 m))), (35, pu (isV (.float .f64 x))), (36, pu (isV (.float .f64 f))), (37, pu (isV (.float .f64 mm))), (38, pu (isV (.pointer (some ⟨wA.heap.size, 1, none⟩)))), (39, pu (isV (.float .f64 l))), (40, pu (isV (.pointer (some ⟨wA.heap.size, 2, none⟩)))), (41, pu (isV (.float .f64 h))), (42, pu (isV (.pointer (some ⟨wA.heap.size, 3, none⟩)))), (43, pu (isV (.int .u64 n))), (44, pu (isV (.int .u64 aa))), (45, pu (isV (.agg #[.float .f64 mm, .float .f64 l, .float .f64 h, .int .u64 aa]))), (8, newS ((wA.alloc (.cells #[.float .f64 m, .float .f64 l, .float .f64 h, .int .u64 n] 35)).alloc (.cells #[.float .f64 0, .float .f64 0, .float .f64 0, .int .u64 0] 35)).heap.size 35 #[.float .f64 0, .float .f64 0, .float .f64 0, .int .u64 0])]) [3, 1, 2] [33, 34, 35, 36, 37, 38, 39, 40, 41, 42, 43, 44, 45, 8] [45, 8] (by kernel_rfl) (by kernel_rfl) (by kernel_rfl) (by kernel_rfl) ⟨rfl, rfl, rfl, trivial⟩ ?_ ?_
              · refine FStepsW.cons (FStepW.plain rfl fun a w hS hE => OpTo.pureG (v := .pointer (some ⟨wA.heap.size, 0, none⟩)) 33 rfl (by have h3 : a.eval (.tmp 3) = .pointer (some ⟨wA.heap.size, 0, none⟩) := hE 3 (by kernel_rfl); unfold execOp; simp only [h3]; go_simp) rfl) ?_
                refine FStepsW.cons (FStepW.plain rfl fun a w hS hE => OpTo.pureG (v := .float .f64 m) 34 rfl (by have h33 : a.eval (.tmp 33) = .pointer (some ⟨wA.heap.size, 0, none⟩) := hE 33 (by kernel_rfl); have hcell : w.cell? ⟨wA.heap.size, 0, none⟩ = some (.float .f64 m) := ((HB1.out.touch hS (by simp)).cell 0).trans rfl; unfold execOp; simp only [h33]; go_simp) rfl) ?_
                refine FStepsW.cons (FStepW.plain rfl fun a w hS hE => OpTo.moveG 35 rfl rfl (hE 1 (by kernel_rfl))) ?_
                refine FStepsW.cons (FStepW.plain rfl fun a w hS hE => OpTo.moveG 36 rfl rfl (hE 2 (by kernel_rfl))) ?_
                refine FStepsW.cons (FStepW.plain rfl fun a w hS hE => OpTo.callG #[.float .f64 m, .float .f64 x, .float .f64 f] 37 rfl rfl Try.func16 (by kernel_rfl) (by kernel_rfl) (argE3 (hE 34 (by kernel_rfl)) (hE 35 (by kernel_rfl)) (hE 36 (by kernel_rfl))) (cN (HM.out w)) (fun _ => rfl)) ?_
                refine FStepsW.cons (FStepW.plain rfl fun a w hS hE => OpTo.pureG (v := .pointer (some ⟨wA.heap.size, 1, none⟩)) 38 rfl (by have h3 : a.eval (.tmp 3) = .pointer (some ⟨wA.heap.size, 0, none⟩) := hE 3 (by kernel_rfl); unfold execOp; simp only [h3]; go_simp) rfl) ?_
                refine FStepsW.cons (FStepW.plain rfl fun a w hS hE => OpTo.pureG (v := .float .f64 l) 39 rfl (by have h38 : a.eval (.tmp 38) = .pointer (some ⟨wA.heap.size, 1, none⟩) := hE 38 (by kernel_rfl); have hcell : w.cell? ⟨wA.heap.size, 1, none⟩ = some (.float .f64 l) := ((HB1.out.touch hS (by simp)).cell 1).trans rfl; unfold execOp; simp only [h38]; go_simp) rfl) ?_
                refine FStepsW.cons (FStepW.plain rfl fun a w hS hE => OpTo.pureG (v := .pointer (some ⟨wA.heap.size, 2, none⟩)) 40 rfl (by have h3 : a.eval (.tmp 3) = .pointer (some ⟨wA.heap.size, 0, none⟩) := hE 3 (by kernel_rfl); unfold execOp; simp only [h3]; go_simp) rfl) ?_
                refine FStepsW.cons (FStepW.plain rfl fun a w hS hE => OpTo.pureG (v := .float .f64 h) 41 rfl (by have h40 : a.eval (.tmp 40) = .pointer (some ⟨wA.heap.size, 2, none⟩) := hE 40 (by kernel_rfl); have hcell : w.cell? ⟨wA.heap.size, 2, none⟩ = some (.float .f64 h) := ((HB1.out.touch hS (by simp)).cell 2).trans rfl; unfold execOp; simp only [h40]; go_simp) rfl) ?_
                refine FStepsW.cons (FStepW.plain rfl fun a w hS hE => OpTo.pureG (v := .pointer (some ⟨wA.heap.size, 3, none⟩)) 42 rfl (by have h3 : a.eval (.tmp 3) = .pointer (some ⟨wA.heap.size, 0, none⟩) := hE 3 (by kernel_rfl); unfold execOp; simp only [h3]; go_simp) rfl) ?_
                refine FStepsW.cons (FStepW.plain rfl fun a w hS hE => OpTo.pureG (v := .int .u64 n) 43 rfl (by have h42 : a.eval (.tmp 42) = .pointer (some ⟨wA.heap.size, 3, none⟩) := hE 42 (by kernel_rfl); have hcell : w.cell? ⟨wA.heap.size, 3, none⟩ = some (.int .u64 n) := ((HB1.out.touch hS (by simp)).cell 3).trans rfl; unfold execOp; simp only [h42]; go_simp) rfl) ?_
                refine FStepsW.cons (FStepW.plain rfl fun a w hS hE => OpTo.callG #[.int .u64 n, .int .u64 1] 44 rfl rfl Try.func34 (by kernel_rfl) (by kernel_rfl) (argE2 (hE 43 (by kernel_rfl)) rfl) (cT (HA.out w)) (fun _ => rfl)) ?_
                refine FStepsW.cons (FStepW.plain rfl fun a w hS hE => OpTo.pureG (v := .agg #[.float .f64 mm, .float .f64 l, .float .f64 h, .int .u64 aa]) 45 rfl (by have h37 : a.eval (.tmp 37) = .float .f64 mm := hE 37 (by kernel_rfl); have h39 : a.eval (.tmp 39) = .float .f64 l := hE 39 (by kernel_rfl); have h41 : a.eval (.tmp 41) = .float .f64 h := hE 41 (by kernel_rfl); have h44 : a.eval (.tmp 44) = .int .u64 aa := hE 44 (by kernel_rfl); unfold execOp; simp only [List.map_toArray, List.map_cons, List.map_nil, h37, h39, h41, h44]; go_simp) rfl) ?_
                refine FStepsW.cons (FStepW.plain rfl fun a w hS hE => OpTo.allocG 8 35 #[.float .f64 0, .float .f64 0, .float .f64 0, .int .u64 0] rfl hS (by unfold execOp; go_simp) rfl) ?_
                exact FStepsW.nil
              intro f wx hS hF
              obtain ⟨h45, h8, -⟩ := hF
              replace h45 : f 45 = .agg #[.float .f64 mm, .float .f64 l, .float .f64 h, .int .u64 aa] := h45
              simp only [setAll, List.setIfInBounds_toArray, List.set_cons_zero, List.set_cons_succ, h45]
              show wpList _ _ _ [_] _ _
              -- END
              obtain ⟨g, h8, hb8, hB8⟩ := h8
              simp only [h8]
              have hT : Touch [] wA wx := ((((Touch.refl [] wA).alloc _).alloc _).trans hS)
              have hB : Blk wx wA.heap.size 35 _ := HB1.out.touch hS (by simp)
              have hC : Blk wx (wA.heap.size + 1) 35 _ := HB2.out.touch hS (by simp)
              have hB8' : wA.heap.size + 2 ≤ g := by simpa using hB8
              obtain ⟨P, hP⟩ : ∃ P, P = wA.heap.size := ⟨_, rfl⟩
              obtain ⟨R, hR⟩ : ∃ R, R = wA.heap.size + 1 := ⟨_, rfl⟩
              rw [← hP] at hB ⊢
              rw [show P + 1 = R by omega] at ⊢
              rw [← hR] at hC
              have hgP : g ≠ P := by omega
              have hgR : g ≠ R := by omega
              have hPR : P ≠ R := by omega
              have HRn := Lib.hid (show wA.heap.size ≤ R by omega)
              have Hgn := Lib.hid (show wA.heap.size ≤ g by omega)
              have HT := Lib.hid hT
              have HB := Lib.hid hB
              have HC := Lib.hid hC
              have HG := Lib.hid hb8
              clear hS HB1 HB2 hT hB hC hb8 hB8 hB8' hP hR h8 h45
              refine wpList_store_row rfl 35 (.tmp 8) (.tmp 45) rfl g #[.float .f64 mm, .float .f64 l, .float .f64 h, .int .u64 aa] rfl rfl 35 _ HG.out (by kernel_rfl) rfl (by simp [Value.oneCell']) ?_
              obtain ⟨w2, hw2⟩ : ∃ w2, w2 = wx.setRow g #[.float .f64 mm, .float .f64 l, .float .f64 h, .int .u64 aa] := ⟨_, rfl⟩
              have hr : Touch [g] wx w2 := ⟨by rw [hw2]; rfl, by rw [hw2]; rfl, by rw [hw2]; rfl, by rw [hw2]; simp, fun k _ hk => by rw [hw2]; exact setRow_other wx g k _ (by simpa using hk)⟩
              have hT2 : Touch [] wA w2 := ⟨hr.os.trans HT.out.os, hr.tape.trans HT.out.tape, hr.output.trans HT.out.output, Nat.le_trans HT.out.size hr.size, fun k hk hn => (hr.block k (Nat.lt_of_lt_of_le hk HT.out.size) (by have := Hgn.out; simp; omega)).trans (HT.out.block k hk hn)⟩
              have hP2 := HB.out.touch hr (by simpa using hgP.symm)
              have hC2 := HC.out.touch hr (by simpa using hgR.symm)
              have hG2 : Blk w2 g 35 #[.float .f64 mm, .float .f64 l, .float .f64 h, .int .u64 aa] := by rw [hw2]; exact setRow_heap wx g _ _ _ _ HG.out
              rw [← hw2]
              clear hw2 hr HT HB HC HG
              have hc1 := hP2.cell 1
              have hc2 := hP2.cell 2
              have hs2 : ∀ v : Value, (w2.setCell ⟨g, 1, none⟩ v).cell? ⟨P, 2, none⟩ = some (.float .f64 h) := fun v => ((hP2.far (p := ⟨g, 1, none⟩) hgP.symm v).cell 2).trans rfl
              have hg1 := hG2.cell 1
              have hg2 := hG2.cell 2
              have hf1 := hG2.frozen 1
              have hf2 := hG2.frozen 2
              have gs2 : ∀ v : Value, (w2.setCell ⟨g, 1, none⟩ v).cell? ⟨g, 2, none⟩ = some (.float .f64 h) := fun v => ((hG2.set_ 1 v).cell 2).trans rfl
              have gf2 : ∀ v : Value, (w2.setCell ⟨g, 1, none⟩ v).frozen? ⟨g, 2, none⟩ = false := fun v => (hG2.set_ 1 v).frozen 2
              have HT := Lib.hid hT2
              have HP := Lib.hid hP2
              have HC := Lib.hid hC2
              have HG := Lib.hid hG2
              clear hT2 hP2 hC2 hG2
              go_wp2_with fail
              have G12 : ∀ u v : Value, Blk ((w2.setCell ⟨g, 1, none⟩ u).setCell ⟨g, 2, none⟩ v) g 35 #[.float .f64 mm, u, v, .int .u64 aa] := fun u v => by simpa using (HG.out.set_ 1 u).set_ 2 v
              have G1 : ∀ u : Value, Blk (w2.setCell ⟨g, 1, none⟩ u) g 35 #[.float .f64 mm, u, .float .f64 h, .int .u64 aa] := fun u => by simpa using HG.out.set_ 1 u
              have G2 : ∀ v : Value, Blk (w2.setCell ⟨g, 2, none⟩ v) g 35 #[.float .f64 mm, .float .f64 l, v, .int .u64 aa] := fun v => by simpa using HG.out.set_ 2 v
              have HT2 : ∀ (u v : Value), Touch [] wA ((w2.setCell ⟨g, 1, none⟩ u).setCell ⟨g, 2, none⟩ v) ∧ Touch [] wA (w2.setCell ⟨g, 1, none⟩ u) ∧ Touch [] wA (w2.setCell ⟨g, 2, none⟩ v) := fun u v => ⟨(HT.out.setCell (.inr Hgn.out) u).setCell (.inr Hgn.out) v, HT.out.setCell (.inr Hgn.out) u, HT.out.setCell (.inr Hgn.out) v⟩
              have HG12 := Lib.hid G12
              have HG1 := Lib.hid G1
              have HG2 := Lib.hid G2
              have HT3 := Lib.hid HT2
              clear G12 G1 G2 HT2
              refine (HL.out _).mono ?_
              rintro e w3 ⟨rfl, hw3⟩
              rw [hw3]
              clear hw3 w3
              go_wp2_with fail
              refine (HH.out _).mono ?_
              rintro e w4 ⟨rfl, hw4⟩
              rw [hw4]
              clear hw4 w4 HL HH HM HA HKx HKf
              go_upto_region 10 with fail
              clear hc1 hc2 hs2 hg1 hg2 hf1 hf2 gs2 gf2
              refine wp_region_list ?_
              first
              | refine wpList_load_row rfl 35 (.tmp 8) rfl g rfl 35 _ (0, 0) _ (HG12.out _ _) Try.underlying35 rfl (by kernel_rfl) ?_
              | refine wpList_load_row rfl 35 (.tmp 8) rfl g rfl 35 _ (0, 0) _ (HG1.out _) Try.underlying35 rfl (by kernel_rfl) ?_
              | refine wpList_load_row rfl 35 (.tmp 8) rfl g rfl 35 _ (0, 0) _ (HG2.out _) Try.underlying35 rfl (by kernel_rfl) ?_
              | refine wpList_load_row rfl 35 (.tmp 8) rfl g rfl 35 _ (0, 0) _ (HG.out) Try.underlying35 rfl (by kernel_rfl) ?_
              first
              | refine wpList_store_row rfl 35 (.tmp 6) (.tmp 58) rfl R _ rfl rfl 35 _ ((HC.out.far (p := ⟨g, 1, none⟩) hgR.symm _).far (p := ⟨g, 2, none⟩) hgR.symm _) (by kernel_rfl) rfl (by simp [Value.oneCell']) ?_
              | refine wpList_store_row rfl 35 (.tmp 6) (.tmp 58) rfl R _ rfl rfl 35 _ (HC.out.far (p := ⟨g, 1, none⟩) hgR.symm _) (by kernel_rfl) rfl (by simp [Value.oneCell']) ?_
              | refine wpList_store_row rfl 35 (.tmp 6) (.tmp 58) rfl R _ rfl rfl 35 _ (HC.out.far (p := ⟨g, 2, none⟩) hgR.symm _) (by kernel_rfl) rfl (by simp [Value.oneCell']) ?_
              | refine wpList_store_row rfl 35 (.tmp 6) (.tmp 58) rfl R _ rfl rfl 35 _ (HC.out) (by kernel_rfl) rfl (by simp [Value.oneCell']) ?_
              go_wp2_with fail
              first
              | exact bodyPost_ret (radd_res _ _ R _ rfl rfl (setRow_heap _ R _ _ _ _ ((HC.out.far (p := ⟨g, 1, none⟩) hgR.symm _).far (p := ⟨g, 2, none⟩) hgR.symm _)) rfl) rfl ⟨congrArg Ending.returned HV.out, touch_row (HT3.out _ _).1 HRn.out _⟩
              | exact bodyPost_ret (radd_res _ _ R _ rfl rfl (setRow_heap _ R _ _ _ _ (HC.out.far (p := ⟨g, 1, none⟩) hgR.symm _)) rfl) rfl ⟨congrArg Ending.returned HV.out, touch_row (HT3.out _ (.bool true)).2.1 HRn.out _⟩
              | exact bodyPost_ret (radd_res _ _ R _ rfl rfl (setRow_heap _ R _ _ _ _ (HC.out.far (p := ⟨g, 2, none⟩) hgR.symm _)) rfl) rfl ⟨congrArg Ending.returned HV.out, touch_row (HT3.out (.bool true) _).2.2 HRn.out _⟩
              | exact bodyPost_ret (radd_res _ _ R _ rfl rfl (setRow_heap _ R _ _ _ _ HC.out) rfl) rfl ⟨congrArg Ending.returned HV.out, touch_row HT.out HRn.out _⟩
end Go.Proofs.Ytbpgbjhjnemaoaa
