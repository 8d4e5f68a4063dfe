/- GaugeEnds: the walk. -/
import Derived.Test.YtbpgbjhjnemaoaaGgAddsWalk
import Derived.Test.YtbpgbjhjnemaoaaGFlowL
namespace Go.Proofs.Ytbpgbjhjnemaoaa
open Go Go.RowKit
/-- What holds of a gauge behind whatever was added. -/
def EndsI (m l h : Nat) (n : Int) : Prop := m < 18446744073709551616 ∧ l < 18446744073709551616 ∧ h < 18446744073709551616 ∧ 0 ≤ n ∧ (n = 0 ∨ (kf l ≤ kf h ∧ isN m = false))
/-- What one more leaves. -/
structure EndsN (m l h : Nat) (n : Int) (x : Nat) (m' l' h' : Nat) (n' : Int) : Prop where
  i : EndsI m' l' h' n'
  n : n' = n + 1
  a : flt x l' = false
  b : flt h' x = false
  c : flt h' l' = false
  m : fk m' ≠ 7
theorem mean_fin {m x f : Nat} (hx : isN x = false) : isN (meanF m x f) = false := by
  unfold meanF
  split
  · rename_i r h
    unfold mF at h
    obtain ⟨l, h1, h⟩ := Option.bind_eq_some_iff.1 h
    obtain ⟨p, h2, h⟩ := Option.bind_eq_some_iff.1 h
    exact (fb_fin (.inl rfl) h).1
  · rw [hx]
    exact hx
theorem ends_step {m l h : Nat} {n : Int} {x f : Nat} (hI : EndsI m l h n) (hn : n ≤ 30) (hx : x < 18446744073709551616) :
    (addV m l h n x f = .tuple #[gV 0 0 0 0, .int .i64 1]) ∨ ∃ m' l' h' n', addV m l h n x f = .tuple #[gV m' l' h' n', .int .i64 0] ∧ EndsN m l h n x m' l' h' n' := by
  obtain ⟨b1, b2, b3, n0, hc⟩ := hI
  unfold addV
  by_cases ho : (okF f && !isN x) = true
  · have hx' : isN x = false := by
      have := (Bool.and_eq_true_iff.1 ho).2
      simpa using this
    rw [if_pos ho]
    by_cases hz : n = 0
    · rw [if_pos hz]
      have hf : flt x x = false := by unfold flt; exact decide_eq_false (by omega)
      exact .inr ⟨x, x, x, 1, rfl, ⟨⟨hx, hx, hx, by decide, .inr ⟨Int.le_refl _, hx'⟩⟩, by omega, hf, hf, hf, fun h7 => by rw [(fk_7 x).1 h7] at hx'; cases hx'⟩⟩
    · rw [if_neg hz]
      rcases hc with h0 | ⟨hlh, hmn⟩
      · exact absurd h0 hz
      · have hm' := mean_fin (m := m) (f := f) hx'
        have ha : addS n 1 = n + 1 := by unfold addS; rw [if_pos (by omega)]
        have hlo : kf (lowF x l) ≤ kf x ∧ kf (lowF x l) ≤ kf l ∧ lowF x l < 18446744073709551616 := by
          unfold lowF flt
          by_cases hh : kf x < kf l
          · simp only [hh, decide_true, if_true]; exact ⟨Int.le_refl _, by omega, hx⟩
          · simp only [hh, decide_false, Bool.false_eq_true, if_false]; exact ⟨by omega, Int.le_refl _, b2⟩
        have hhi : kf x ≤ kf (highF x h) ∧ kf h ≤ kf (highF x h) ∧ highF x h < 18446744073709551616 := by
          unfold highF flt
          by_cases hh : kf h < kf x
          · simp only [hh, decide_true, if_true]; exact ⟨Int.le_refl _, by omega, hx⟩
          · simp only [hh, decide_false, Bool.false_eq_true, if_false]; exact ⟨by omega, Int.le_refl _, b3⟩
        refine .inr ⟨_, _, _, _, rfl, ⟨⟨meanF_lt b1 hx, hlo.2.2, hhi.2.2, by omega, .inr ⟨by omega, hm'⟩⟩, ha, ?_, ?_, ?_, fun h7 => by rw [(fk_7 _).1 h7] at hm'; cases hm'⟩⟩
        · unfold flt; exact decide_eq_false (by omega)
        · unfold flt; exact decide_eq_false (by omega)
        · unfold flt; exact decide_eq_false (by omega)
  · rw [if_neg ho]
    exact .inl rfl
theorem same_zero (W : World) : Calls Try.prog 22 #[gV 0 0 0 0, gV 0 0 0 0] W fun e w' => e = .returned (.bool true) ∧ Touch [] W w' := by
  have h1 := same_any 0 0 0 0 0 0 0 0 (by decide) (by decide) (by decide) (by decide) (by decide) (by decide) W
  rw [show alike 0 0 0 0 0 0 0 0 = true by decide +kernel] at h1
  exact h1
set_option maxRecDepth 100000 in
set_option maxHeartbeats 8000000 in
theorem ends_walk (A : Option Addr) (n c : Nat) (d : Nat → Nat) (f : Nat) (_hn : n ≤ c ∧ c ≤ maxLen) (hf : f < 18446744073709551616) (wA : World) (hrow : RowF wA A n d) :
    Calls Try.prog 7 #[.slice A n c, .float .f64 f] wA fun e w' => e = .returned (.bool true) ∧ Touch [] wA w' := by
  unfold maxLen at _hn
  have HR := Lib.hid hrow
  have HF := Lib.hid (fun W : World => fixed_any W)
  have HAd := Lib.hid (fun (m l h x : Nat) (k : Int) (h1 : l < 18446744073709551616) (h2 : h < 18446744073709551616) (h3 : 0 ≤ k) (h4 : k < 18446744073709551616) (h5 : x < 18446744073709551616) (W : World) => add_any m l h x f k h1 h2 h3 h4 h5 hf W)
  clear hrow hf
  go_enter Try.func7, Try.ntmps7
  go_wp2_with fail
  obtain ⟨g5, hg5⟩ : ∃ g, g = wA.heap.size := ⟨_, rfl⟩
  rw [← hg5]
  have HB0 := Lib.hid (show Blk (wA.alloc (.cells (gC 0 0 0 0) 31)) g5 31 (gC 0 0 0 0) by rw [hg5]; exact Blk.new wA _ _)
  have Hg5 := Lib.hid (show wA.heap.size ≤ g5 by omega)
  clear hg5
  go_loopw [6, 7] (fun vu vi wr => ∃ (i : Nat) (m l h : Nat) (k : Int), i ≤ 30 ∧ i ≤ n ∧ k ≤ (i : Int) ∧ EndsI m l h k ∧ vu = .int .u64 k ∧ vi = .int .i64 (i : Int) ∧ Blk wr g5 31 (gC m l h k) ∧ Touch [] wA wr) (fun _ vi _ => 30 - (intOf vi).toNat)
  case atStart => exact ⟨0, 0, 0, 0, 0, by omega, by omega, by omega, ⟨by decide, by decide, by decide, by decide, .inl rfl⟩, rfl, rfl, HB0.out, (Touch.refl [] wA).alloc _⟩
  case round =>
    obtain ⟨i, m, l, h, k, hi30, hin, hki, hI, rfl, rfl, hb, ht⟩ := hrel
    clear HB0
    have HI := Lib.hid hI
    have HB := Lib.hid hb
    have HT := Lib.hid ht
    clear hI hb ht
    by_cases hlt : i < n ∧ i < 30
    · obtain ⟨hl1, hl2⟩ := hlt
      obtain ⟨g, o, rfl, hg, hcell, hbd⟩ := HR.out i hl1
      obtain ⟨x, hx⟩ : ∃ x, x = d i := ⟨_, rfl⟩
      rw [← hx] at hcell hbd
      have HC := Lib.hid ((HT.out.cell (p := ⟨g, o + i, none⟩) hg (by simp)).trans hcell)
      have Hgl := Lib.hid (Nat.lt_of_lt_of_le hg HT.out.size)
      have Hgw := Lib.hid hg
      have hstep := ends_step (f := f) HI.out (by omega) hbd
      have HI5 := HI.out
      have HAdd := Lib.hid (fun W : World => HAd.out m l h x k HI5.2.1 HI5.2.2.1 HI5.2.2.2.1 (by have := HI5.2.2.2.1; omega) hbd W)
      have Hbd := Lib.hid hbd
      have Hk0 := Lib.hid HI5.2.2.2.1
      have q1 := Lib.hid (show (0 : Int) ≤ (i : Int) ∧ (i : Int) < (n : Int) by omega)
      clear hx hcell hbd HI5 hg
      rcases hstep with hbad | ⟨m', l', h', k', hok, hN⟩
      · rw [hbad] at HAdd
        have HSz := Lib.hid (fun W : World => same_zero W)
        clear hbad
        go_upto_region 5 with fail
        obtain ⟨wB, hwB⟩ : ∃ wB : World, wB = wr := ⟨_, rfl⟩
        rw [← hwB] at HB HT HC Hgl ⊢
        clear hwB wr
        -- GF ends5z
        refine wp_region_flowL (lookW [(5, pu (isV (.pointer (some ⟨g5, 0, none⟩)))), (0, pu (isV (.slice (some ⟨g, o, none⟩) n c))), (7, pu (isV (.int .i64 (i : Int)))), (1, pu (isV (.float .f64 f))), (22, pu (isV (.agg #[.float .f64 m, .float .f64 l, .float .f64 h, .int .u64 k]))), (23, pu (isV (.slice (some ⟨g, o, none⟩) n c))), (24, pu (isV (.int .i64 (i : Int)))), (25, pu (isV (.pointer (some ⟨g, o + i, none⟩)))), (26, pu (isV (.float .f64 x))), (27, pu (isV (.float .f64 f))), (28, pu (isV (.tuple #[.agg #[.float .f64 0, .float .f64 0, .float .f64 0, .int .u64 0], .int .i64 1]))), (21, pu (isV (.tuple #[.agg #[.float .f64 0, .float .f64 0, .float .f64 0, .int .u64 0], .int .i64 1]))), (29, pu (isV (.agg #[.float .f64 0, .float .f64 0, .float .f64 0, .int .u64 0]))), (30, pu (isV (.int .i64 1))), (8, newS wB.heap.size 31 #[.float .f64 0, .float .f64 0, .float .f64 0, .int .u64 0])]) (by kernel_rfl) 11 [9] (fun d _ _ _ _ h => by cases d <;> exact h) ?_ [5, 0, 7, 1] [22, 23, 24, 25, 26, 27, 28, 21, 29, 30, 8] [29, 30, 8] (by kernel_rfl) (by kernel_rfl) (by kernel_rfl) (by kernel_rfl) ⟨rfl, rfl, rfl, rfl, trivial⟩ ?_ ?_
        · intro l hl o ho
          simp only [List.mem_cons, List.not_mem_nil, or_false] at hl
          subst hl
          obtain rfl : _ = o := Option.some.inj ho
          change LateStep _ _ _ (Oper.mk _ _ _ _ _ _)
          exact fun ac w hE => ⟨.int .i64 1, .inl ⟨rfl, fun w => by have h21 : ac.eval (.tmp 21) = .tuple #[.agg #[.float .f64 0, .float .f64 0, .float .f64 0, .int .u64 0], .int .i64 1] := hE 21 (by kernel_rfl); unfold execOp; simp only [h21]; go_simp⟩, fun _ => dOfW.of 30 rfl rfl⟩
        · refine FStepsW.cons (FStepW.plain rfl fun ac w hS hE => OpTo.rowG 22 31 _ rfl rfl g5 (hE 5 (by kernel_rfl)) 31 #[.float .f64 m, .float .f64 l, .float .f64 h, .int .u64 k] _ (HB.out.touch hS (by simp)) Try.underlying31 rfl (by kernel_rfl) rfl) ?_
          refine FStepsW.cons (FStepW.plain rfl fun ac w hS hE => OpTo.moveG 23 rfl rfl (hE 0 (by kernel_rfl))) ?_
          refine FStepsW.cons (FStepW.plain rfl fun ac w hS hE => OpTo.moveG 24 rfl rfl (hE 7 (by kernel_rfl))) ?_
          refine FStepsW.cons (FStepW.plain rfl fun ac w hS hE => OpTo.pureG (v := .pointer (some ⟨g, o + i, none⟩)) 25 rfl (by have h23 : ac.eval (.tmp 23) = .slice (some ⟨g, o, none⟩) n c := hE 23 (by kernel_rfl); have h24 : ac.eval (.tmp 24) = .int .i64 (i : Int) := hE 24 (by kernel_rfl); have q := q1.out; unfold execOp; simp only [h23, h24]; go_simp) rfl) ?_
          refine FStepsW.cons (FStepW.plain rfl fun ac w hS hE => OpTo.pureG (v := .float .f64 x) 26 rfl (by have h25 : ac.eval (.tmp 25) = .pointer (some ⟨g, o + i, none⟩) := hE 25 (by kernel_rfl); have hcell : w.cell? ⟨g, o + i, none⟩ = some (.float .f64 x) := (hS.cell (p := ⟨g, o + i, none⟩) Hgl.out (by simp)).trans HC.out; unfold execOp; simp only [h25]; go_simp) rfl) ?_
          refine FStepsW.cons (FStepW.plain rfl fun ac w hS hE => OpTo.moveG 27 rfl rfl (hE 1 (by kernel_rfl))) ?_
          refine FStepsW.cons (FStepW.plain rfl fun ac w hS hE => OpTo.callG #[.agg #[.float .f64 m, .float .f64 l, .float .f64 h, .int .u64 k], .float .f64 x, .float .f64 f] 28 rfl rfl Try.func18 (by kernel_rfl) (by kernel_rfl) (argE3 (hE 22 (by kernel_rfl)) (hE 26 (by kernel_rfl)) (hE 27 (by kernel_rfl))) (HAdd.out w) (fun _ => rfl)) ?_
          refine FStepsW.cons (FStepW.plain rfl fun ac w hS hE => OpTo.moveG 21 rfl rfl (hE 28 (by kernel_rfl))) ?_
          refine FStepsW.cons (FStepW.plain rfl fun ac w hS hE => OpTo.pureG (v := .agg #[.float .f64 0, .float .f64 0, .float .f64 0, .int .u64 0]) 29 rfl (by have h21 : ac.eval (.tmp 21) = .tuple #[.agg #[.float .f64 0, .float .f64 0, .float .f64 0, .int .u64 0], .int .i64 1] := hE 21 (by kernel_rfl); unfold execOp; simp only [h21]; go_simp) rfl) ?_
          refine FStepsW.cons (FStepW.plain rfl fun ac w hS hE => OpTo.pureG (v := .int .i64 1) 30 rfl (by have h21 : ac.eval (.tmp 21) = .tuple #[.agg #[.float .f64 0, .float .f64 0, .float .f64 0, .int .u64 0], .int .i64 1] := hE 21 (by kernel_rfl); unfold execOp; simp only [h21]; go_simp) rfl) ?_
          refine FStepsW.cons (FStepW.plain rfl fun ac w hS hE => OpTo.allocG 8 31 #[.float .f64 0, .float .f64 0, .float .f64 0, .int .u64 0] rfl hS (by unfold execOp; go_simp) rfl) ?_
          exact FStepsW.nil
        intro f wx hS hF
        obtain ⟨h29, h30, h8, -⟩ := hF
        replace h29 : f 29 = .agg #[.float .f64 0, .float .f64 0, .float .f64 0, .int .u64 0] := h29
        replace h30 : f 30 = .int .i64 1 := h30
        simp only [setAll, List.setIfInBounds_toArray, List.set_cons_zero, List.set_cons_succ, h29, h30]
        show wpList _ _ _ [_, _] _ _
        -- END
        obtain ⟨g8, h8, hb8, hB8⟩ := h8
        simp only [h8]
        have hTx := HT.out.trans hS
        have hBx := HB.out.touch hS (by simp)
        have h58 : g5 ≠ g8 := by have := hBx; have := HB.out.lt; omega
        have Hg8 := Lib.hid (show wA.heap.size ≤ g8 by have := HT.out.size; omega)
        refine wpList_store_row rfl 31 (.tmp 8) (.tmp 29) rfl g8 (gC 0 0 0 0) rfl rfl 31 _ hb8 (by kernel_rfl) rfl (by simp [Value.oneCell']) ?_
        obtain ⟨w2, hw2⟩ : ∃ w2, w2 = wx.setRow g8 (gC 0 0 0 0) := ⟨_, rfl⟩
        have hr : Touch [g8] wx w2 := ⟨by rw [hw2]; rfl, by rw [hw2]; rfl, by rw [hw2]; rfl, by rw [hw2]; simp, fun k _ hk => by rw [hw2]; exact setRow_other wx g8 k _ (by simpa using hk)⟩
        have hT2 : Touch [] wA w2 := by rw [hw2]; exact touch_row hTx Hg8.out _
        have hB2 := hBx.touch hr (by simpa using h58)
        have hG2 : Blk w2 g8 31 (gC 0 0 0 0) := by rw [hw2]; exact setRow_heap wx g8 _ _ _ _ hb8
        have hgl2 : g < w2.heap.size := Nat.lt_of_lt_of_le Hgl.out (Nat.le_trans hS.size hr.size)
        have hne8 : g ≠ g8 := by have := Hgl.out; omega
        have hc2 : w2.cell? ⟨g, o + i, none⟩ = some (.float .f64 x) := (World.cell?_of_block (hr.block g (Nat.lt_of_lt_of_le Hgl.out hS.size) (by simpa using hne8))).trans ((hS.cell (p := ⟨g, o + i, none⟩) Hgl.out (by simp)).trans HC.out)
        rw [← hw2]
        clear hw2 hr hBx hTx hb8 hB8 h8 hS HT HB HC Hgl
        have HT := Lib.hid hT2
        have HB := Lib.hid hB2
        have HG := Lib.hid hG2
        have Hgl := Lib.hid hgl2
        have HC := Lib.hid hc2
        clear hT2 hB2 hG2 hgl2 hc2 HAdd h29 h30
        obtain ⟨z0, z1, z2, z3⟩ := four_cells HG.out
        go_wp2_with fail
        refine (HSz.out _).mono ?_
        rintro e w3 ⟨rfl, ht⟩
        have HB3 := Lib.hid (HB.out.touch ht (by simp))
        have HT3 := Lib.hid (HT.out.trans ht)
        clear ht z0 z1 z2 z3 HSz HG
        go_wp2_with fail
        go_roundw
        case rel => exact ⟨i + 1, m, l, h, k, by omega, by omega, by omega, HI.out, rfl, by go_num, HB3.out, HT3.out⟩
        case measure => simp [intOf]; omega
      · rw [hok] at HAdd
        have HN := Lib.hid hN
        clear hok hN
        go_upto_region 5 with fail
        obtain ⟨wB, hwB⟩ : ∃ wB : World, wB = wr := ⟨_, rfl⟩
        rw [← hwB] at HB HT HC Hgl ⊢
        clear hwB wr
        -- GF ends5n
        refine wp_region_flowL (lookW [(5, pu (isV (.pointer (some ⟨g5, 0, none⟩)))), (0, pu (isV (.slice (some ⟨g, o, none⟩) n c))), (7, pu (isV (.int .i64 (i : Int)))), (1, pu (isV (.float .f64 f))), (22, pu (isV (.agg #[.float .f64 m, .float .f64 l, .float .f64 h, .int .u64 k]))), (23, pu (isV (.slice (some ⟨g, o, none⟩) n c))), (24, pu (isV (.int .i64 (i : Int)))), (25, pu (isV (.pointer (some ⟨g, o + i, none⟩)))), (26, pu (isV (.float .f64 x))), (27, pu (isV (.float .f64 f))), (28, pu (isV (.tuple #[.agg #[.float .f64 m', .float .f64 l', .float .f64 h', .int .u64 k'], .int .i64 0]))), (21, pu (isV (.tuple #[.agg #[.float .f64 m', .float .f64 l', .float .f64 h', .int .u64 k'], .int .i64 0]))), (29, pu (isV (.agg #[.float .f64 m', .float .f64 l', .float .f64 h', .int .u64 k']))), (30, pu (isV (.int .i64 0))), (8, newS wB.heap.size 31 #[.float .f64 0, .float .f64 0, .float .f64 0, .int .u64 0])]) (by kernel_rfl) 11 [9] (fun d _ _ _ _ h => by cases d <;> exact h) ?_ [5, 0, 7, 1] [22, 23, 24, 25, 26, 27, 28, 21, 29, 30, 8] [29, 30, 8] (by kernel_rfl) (by kernel_rfl) (by kernel_rfl) (by kernel_rfl) ⟨rfl, rfl, rfl, rfl, trivial⟩ ?_ ?_
        · intro l hl o ho
          simp only [List.mem_cons, List.not_mem_nil, or_false] at hl
          subst hl
          obtain rfl : _ = o := Option.some.inj ho
          change LateStep _ _ _ (Oper.mk _ _ _ _ _ _)
          exact fun ac w hE => ⟨.int .i64 0, .inl ⟨rfl, fun w => by have h21 : ac.eval (.tmp 21) = .tuple #[.agg #[.float .f64 m', .float .f64 l', .float .f64 h', .int .u64 k'], .int .i64 0] := hE 21 (by kernel_rfl); unfold execOp; simp only [h21]; go_simp⟩, fun _ => dOfW.of 30 rfl rfl⟩
        · refine FStepsW.cons (FStepW.plain rfl fun ac w hS hE => OpTo.rowG 22 31 _ rfl rfl g5 (hE 5 (by kernel_rfl)) 31 #[.float .f64 m, .float .f64 l, .float .f64 h, .int .u64 k] _ (HB.out.touch hS (by simp)) Try.underlying31 rfl (by kernel_rfl) rfl) ?_
          refine FStepsW.cons (FStepW.plain rfl fun ac w hS hE => OpTo.moveG 23 rfl rfl (hE 0 (by kernel_rfl))) ?_
          refine FStepsW.cons (FStepW.plain rfl fun ac w hS hE => OpTo.moveG 24 rfl rfl (hE 7 (by kernel_rfl))) ?_
          refine FStepsW.cons (FStepW.plain rfl fun ac w hS hE => OpTo.pureG (v := .pointer (some ⟨g, o + i, none⟩)) 25 rfl (by have h23 : ac.eval (.tmp 23) = .slice (some ⟨g, o, none⟩) n c := hE 23 (by kernel_rfl); have h24 : ac.eval (.tmp 24) = .int .i64 (i : Int) := hE 24 (by kernel_rfl); have q := q1.out; unfold execOp; simp only [h23, h24]; go_simp) rfl) ?_
          refine FStepsW.cons (FStepW.plain rfl fun ac w hS hE => OpTo.pureG (v := .float .f64 x) 26 rfl (by have h25 : ac.eval (.tmp 25) = .pointer (some ⟨g, o + i, none⟩) := hE 25 (by kernel_rfl); have hcell : w.cell? ⟨g, o + i, none⟩ = some (.float .f64 x) := (hS.cell (p := ⟨g, o + i, none⟩) Hgl.out (by simp)).trans HC.out; unfold execOp; simp only [h25]; go_simp) rfl) ?_
          refine FStepsW.cons (FStepW.plain rfl fun ac w hS hE => OpTo.moveG 27 rfl rfl (hE 1 (by kernel_rfl))) ?_
          refine FStepsW.cons (FStepW.plain rfl fun ac w hS hE => OpTo.callG #[.agg #[.float .f64 m, .float .f64 l, .float .f64 h, .int .u64 k], .float .f64 x, .float .f64 f] 28 rfl rfl Try.func18 (by kernel_rfl) (by kernel_rfl) (argE3 (hE 22 (by kernel_rfl)) (hE 26 (by kernel_rfl)) (hE 27 (by kernel_rfl))) (HAdd.out w) (fun _ => rfl)) ?_
          refine FStepsW.cons (FStepW.plain rfl fun ac w hS hE => OpTo.moveG 21 rfl rfl (hE 28 (by kernel_rfl))) ?_
          refine FStepsW.cons (FStepW.plain rfl fun ac w hS hE => OpTo.pureG (v := .agg #[.float .f64 m', .float .f64 l', .float .f64 h', .int .u64 k']) 29 rfl (by have h21 : ac.eval (.tmp 21) = .tuple #[.agg #[.float .f64 m', .float .f64 l', .float .f64 h', .int .u64 k'], .int .i64 0] := hE 21 (by kernel_rfl); unfold execOp; simp only [h21]; go_simp) rfl) ?_
          refine FStepsW.cons (FStepW.plain rfl fun ac w hS hE => OpTo.pureG (v := .int .i64 0) 30 rfl (by have h21 : ac.eval (.tmp 21) = .tuple #[.agg #[.float .f64 m', .float .f64 l', .float .f64 h', .int .u64 k'], .int .i64 0] := hE 21 (by kernel_rfl); unfold execOp; simp only [h21]; go_simp) rfl) ?_
          refine FStepsW.cons (FStepW.plain rfl fun ac w hS hE => OpTo.allocG 8 31 #[.float .f64 0, .float .f64 0, .float .f64 0, .int .u64 0] rfl hS (by unfold execOp; go_simp) rfl) ?_
          exact FStepsW.nil
        intro f wx hS hF
        obtain ⟨h29, h30, h8, -⟩ := hF
        replace h29 : f 29 = .agg #[.float .f64 m', .float .f64 l', .float .f64 h', .int .u64 k'] := h29
        replace h30 : f 30 = .int .i64 0 := h30
        simp only [setAll, List.setIfInBounds_toArray, List.set_cons_zero, List.set_cons_succ, h29, h30]
        show wpList _ _ _ [_, _] _ _
        -- END
        obtain ⟨g8, h8, hb8, hB8⟩ := h8
        simp only [h8]
        have hTx := HT.out.trans hS
        have hBx := HB.out.touch hS (by simp)
        have h58 : g5 ≠ g8 := by have := hBx; have := HB.out.lt; omega
        have Hg8 := Lib.hid (show wA.heap.size ≤ g8 by have := HT.out.size; omega)
        refine wpList_store_row rfl 31 (.tmp 8) (.tmp 29) rfl g8 (gC m' l' h' k') rfl rfl 31 _ hb8 (by kernel_rfl) rfl (by simp [Value.oneCell']) ?_
        obtain ⟨w2, hw2⟩ : ∃ w2, w2 = wx.setRow g8 (gC m' l' h' k') := ⟨_, rfl⟩
        have hr : Touch [g8] wx w2 := ⟨by rw [hw2]; rfl, by rw [hw2]; rfl, by rw [hw2]; rfl, by rw [hw2]; simp, fun k _ hk => by rw [hw2]; exact setRow_other wx g8 k _ (by simpa using hk)⟩
        have hT2 : Touch [] wA w2 := by rw [hw2]; exact touch_row hTx Hg8.out _
        have hB2 := hBx.touch hr (by simpa using h58)
        have hG2 : Blk w2 g8 31 (gC m' l' h' k') := by rw [hw2]; exact setRow_heap wx g8 _ _ _ _ hb8
        have hgl2 : g < w2.heap.size := Nat.lt_of_lt_of_le Hgl.out (Nat.le_trans hS.size hr.size)
        have hne8 : g ≠ g8 := by have := Hgl.out; omega
        have hc2 : w2.cell? ⟨g, o + i, none⟩ = some (.float .f64 x) := (World.cell?_of_block (hr.block g (Nat.lt_of_lt_of_le Hgl.out hS.size) (by simpa using hne8))).trans ((hS.cell (p := ⟨g, o + i, none⟩) Hgl.out (by simp)).trans HC.out)
        rw [← hw2]
        clear hw2 hr hBx hTx hb8 hB8 h8 hS HT HB HC Hgl
        have HT := Lib.hid hT2
        have HB := Lib.hid hB2
        have HG := Lib.hid hG2
        have Hgl := Lib.hid hgl2
        have HC := Lib.hid hc2
        clear hT2 hB2 hG2 hgl2 hc2 HAdd h29 h30
        have m9 : IntKind.u64.wrap k' = k' := by
          rw [IntKind.wrap_u64, HN.out.n]
          have := Hk0.out
          omega
        have m10 : k + 1 = k' := HN.out.n.symm
        go_upto_region 10 with fail
        first
        | rw [m10]
        | skip
        clear m9 m10
        refine wp_region_list ?_
        refine wpList_load_row rfl 31 (.tmp 8) rfl g8 rfl 31 _ (0, 0) _ HG.out Try.underlying31 rfl (by kernel_rfl) ?_
        refine wpList_store_row rfl 31 (.tmp 5) (.tmp 39) rfl g5 _ rfl rfl 31 _ HB.out (by kernel_rfl) rfl (by simp [Value.oneCell']) ?_
        obtain ⟨w3, hw3⟩ : ∃ w3, w3 = w2.setRow g5 (gC m' l' h' k') := ⟨_, rfl⟩
        have hT3 : Touch [] wA w3 := by rw [hw3]; exact touch_row HT.out Hg5.out _
        have hG3 : Blk w3 g5 31 (gC m' l' h' k') := by rw [hw3]; exact setRow_heap w2 g5 _ _ _ _ HB.out
        have hne5 : g ≠ g5 := by have := Hgw.out; have := Hg5.out; omega
        have hc3 : w3.cell? ⟨g, o + i, none⟩ = some (.float .f64 x) := by
          rw [hw3]
          exact (World.cell?_of_block (setRow_other w2 g5 g _ hne5)).trans HC.out
        have hgl3 : g < w3.heap.size := by rw [hw3]; simpa using Hgl.out
        rw [← hw3]
        clear hw3 HT HB HC HG Hgl
        have HT := Lib.hid hT3
        have HB := Lib.hid hG3
        have HC := Lib.hid hc3
        have Hgl := Lib.hid hgl3
        have HNi := HN.out.i
        have HL1 := Lib.hid (fun W : World => HN.out.a ▸ less_any x l' Hbd.out HNi.2.1 W)
        have HL2 := Lib.hid (fun W : World => HN.out.b ▸ less_any h' x HNi.2.2.1 Hbd.out W)
        have HL3 := Lib.hid (fun W : World => HN.out.c ▸ less_any h' l' HNi.2.2.1 HNi.2.1 W)
        have HK0 := fun W : World => kind_any m' HNi.1 W
        obtain ⟨km, hkm⟩ : ∃ km, km = fk m' := ⟨_, rfl⟩
        rw [← hkm] at HK0
        have k7 := Lib.hid (show (km == 7) = false from beq_eq_false_iff_ne.2 (by rw [hkm]; exact HN.out.m))
        have HK := Lib.hid HK0
        clear hT3 hG3 hc3 hgl3 HNi HK0 hkm
        simp only [Act.put, List.setIfInBounds_toArray, List.set_cons_zero, List.set_cons_succ]
        go_upto_region 11 with fail
        -- GF ends11
        refine wp_region_flowT (by kernel_rfl) 35 (lookW [(0, pu (isV (.slice (some ⟨g, o, none⟩) n c))), (7, pu (isV (.int .i64 (i : Int)))), (5, pu (isV (.pointer (some ⟨g5, 0, none⟩)))), (6, pu (isV (.int .u64 k'))), (40, pu (isV (.slice (some ⟨g, o, none⟩) n c))), (41, pu (isV (.int .i64 (i : Int)))), (42, pu (isV (.pointer (some ⟨g, o + i, none⟩)))), (43, pu (isV (.float .f64 x))), (44, pu (isV (.pointer (some ⟨g5, 1, none⟩)))), (45, pu (isV (.float .f64 l'))), (46, pu (isV (.bool false))), (47, pu (isV (.bool false))), (48, pu (isV (.pointer (some ⟨g5, 2, none⟩)))), (49, pu (isV (.float .f64 h'))), (50, pu (isV (.slice (some ⟨g, o, none⟩) n c))), (51, pu (isV (.int .i64 (i : Int)))), (52, pu (isV (.pointer (some ⟨g, o + i, none⟩)))), (53, pu (isV (.float .f64 x))), (54, pu (isV (.bool false))), (55, pu (isV (.bool false))), (56, pu (isV (.bool false))), (57, pu (isV (.pointer (some ⟨g5, 2, none⟩)))), (58, pu (isV (.float .f64 h'))), (59, pu (isV (.pointer (some ⟨g5, 1, none⟩)))), (60, pu (isV (.float .f64 l'))), (61, pu (isV (.bool false))), (62, pu (isV (.bool false))), (63, pu (isV (.bool false))), (64, pu (isV (.pointer (some ⟨g5, 3, none⟩)))), (65, pu (isV (.int .u64 k'))), (66, pu (isV (.int .u64 k'))), (67, pu (isV (.bool false))), (68, pu (isV (.bool false))), (69, pu (isV (.bool false))), (70, pu (isV (.pointer (some ⟨g5, 0, none⟩)))), (71, pu (isV (.float .f64 m'))), (72, pu (isV (.int .i64 km))), (73, pu (isV (.bool false))), (74, pu (isV (.bool false)))]) [0, 7, 5, 6] [40, 41, 42, 43, 44, 45, 46, 47, 48, 49, 50, 51, 52, 53, 54, 55, 56, 57, 58, 59, 60, 61, 62, 63, 64, 65, 66, 67, 68, 69, 70, 71, 72, 73, 74] [74] (by kernel_rfl) (by kernel_rfl) (by kernel_rfl) (by kernel_rfl) ⟨rfl, rfl, rfl, rfl, trivial⟩ ?_ ?_
        · refine FStepsW.cons (FStepW.plain rfl fun ac w hS hE => OpTo.moveG 40 rfl rfl (hE 0 (by kernel_rfl))) ?_
          refine FStepsW.cons (FStepW.plain rfl fun ac w hS hE => OpTo.moveG 41 rfl rfl (hE 7 (by kernel_rfl))) ?_
          refine FStepsW.cons (FStepW.plain rfl fun ac w hS hE => OpTo.pureG (v := .pointer (some ⟨g, o + i, none⟩)) 42 rfl (by have h40 : ac.eval (.tmp 40) = .slice (some ⟨g, o, none⟩) n c := hE 40 (by kernel_rfl); have h41 : ac.eval (.tmp 41) = .int .i64 (i : Int) := hE 41 (by kernel_rfl); have q := q1.out; unfold execOp; simp only [h40, h41]; go_simp) rfl) ?_
          refine FStepsW.cons (FStepW.plain rfl fun ac w hS hE => OpTo.pureG (v := .float .f64 x) 43 rfl (by have h42 : ac.eval (.tmp 42) = .pointer (some ⟨g, o + i, none⟩) := hE 42 (by kernel_rfl); have hcell : w.cell? ⟨g, o + i, none⟩ = some (.float .f64 x) := (hS.cell (p := ⟨g, o + i, none⟩) Hgl.out (by simp)).trans HC.out; unfold execOp; simp only [h42]; go_simp) rfl) ?_
          refine FStepsW.cons (FStepW.plain rfl fun ac w hS hE => OpTo.pureG (v := .pointer (some ⟨g5, 1, none⟩)) 44 rfl (by have h5 : ac.eval (.tmp 5) = .pointer (some ⟨g5, 0, none⟩) := hE 5 (by kernel_rfl); unfold execOp; simp only [h5]; go_simp) rfl) ?_
          refine FStepsW.cons (FStepW.plain rfl fun ac w hS hE => OpTo.pureG (v := .float .f64 l') 45 rfl (by have h44 : ac.eval (.tmp 44) = .pointer (some ⟨g5, 1, none⟩) := hE 44 (by kernel_rfl); have hcell : w.cell? ⟨g5, 1, none⟩ = some (.float .f64 l') := ((HB.out.touch hS (by simp)).cell 1).trans rfl; unfold execOp; simp only [h44]; go_simp) rfl) ?_
          refine FStepsW.cons (FStepW.plain rfl fun ac w hS hE => OpTo.callG #[.float .f64 x, .float .f64 l'] 46 rfl rfl Try.func13 (by kernel_rfl) (by kernel_rfl) (argE2 (hE 43 (by kernel_rfl)) (hE 45 (by kernel_rfl))) (cT (HL1.out w)) (fun _ => rfl)) ?_
          refine FStepsW.cons (FStepW.plain rfl fun ac w hS hE => OpTo.moveG 47 rfl rfl (hE 46 (by kernel_rfl))) ?_
          refine FStepsW.cons (FStepW.go 47 rfl rfl (fun _ _ h => h) fun ac w hS hE => OpTo.pureG (v := .pointer (some ⟨g5, 2, none⟩)) 48 rfl (by have h5 : ac.eval (.tmp 5) = .pointer (some ⟨g5, 0, none⟩) := hE 5 (by kernel_rfl); unfold execOp; simp only [h5]; go_simp) rfl) ?_
          refine FStepsW.cons (FStepW.go 47 rfl rfl (fun _ _ h => h) fun ac w hS hE => OpTo.pureG (v := .float .f64 h') 49 rfl (by have h48 : ac.eval (.tmp 48) = .pointer (some ⟨g5, 2, none⟩) := hE 48 (by kernel_rfl); have hcell : w.cell? ⟨g5, 2, none⟩ = some (.float .f64 h') := ((HB.out.touch hS (by simp)).cell 2).trans rfl; unfold execOp; simp only [h48]; go_simp) rfl) ?_
          refine FStepsW.cons (FStepW.go 47 rfl rfl (fun _ _ h => h) fun ac w hS hE => OpTo.moveG 50 rfl rfl (hE 0 (by kernel_rfl))) ?_
          refine FStepsW.cons (FStepW.go 47 rfl rfl (fun _ _ h => h) fun ac w hS hE => OpTo.moveG 51 rfl rfl (hE 7 (by kernel_rfl))) ?_
          refine FStepsW.cons (FStepW.go 47 rfl rfl (fun _ _ h => h) fun ac w hS hE => OpTo.pureG (v := .pointer (some ⟨g, o + i, none⟩)) 52 rfl (by have h50 : ac.eval (.tmp 50) = .slice (some ⟨g, o, none⟩) n c := hE 50 (by kernel_rfl); have h51 : ac.eval (.tmp 51) = .int .i64 (i : Int) := hE 51 (by kernel_rfl); have q := q1.out; unfold execOp; simp only [h50, h51]; go_simp) rfl) ?_
          refine FStepsW.cons (FStepW.go 47 rfl rfl (fun _ _ h => h) fun ac w hS hE => OpTo.pureG (v := .float .f64 x) 53 rfl (by have h52 : ac.eval (.tmp 52) = .pointer (some ⟨g, o + i, none⟩) := hE 52 (by kernel_rfl); have hcell : w.cell? ⟨g, o + i, none⟩ = some (.float .f64 x) := (hS.cell (p := ⟨g, o + i, none⟩) Hgl.out (by simp)).trans HC.out; unfold execOp; simp only [h52]; go_simp) rfl) ?_
          refine FStepsW.cons (FStepW.go 47 rfl rfl (fun _ _ h => h) fun ac w hS hE => OpTo.callG #[.float .f64 h', .float .f64 x] 54 rfl rfl Try.func13 (by kernel_rfl) (by kernel_rfl) (argE2 (hE 49 (by kernel_rfl)) (hE 53 (by kernel_rfl))) (cT (HL2.out w)) (fun _ => rfl)) ?_
          refine FStepsW.cons (FStepW.plain rfl fun ac w hS hE => OpTo.pickG false 55 rfl rfl (hE 47 (by kernel_rfl)) (hE 54 (by kernel_rfl))) ?_
          refine FStepsW.cons (FStepW.plain rfl fun ac w hS hE => OpTo.moveG 56 rfl rfl (hE 55 (by kernel_rfl))) ?_
          refine FStepsW.cons (FStepW.go 56 rfl rfl (fun _ _ h => h) fun ac w hS hE => OpTo.pureG (v := .pointer (some ⟨g5, 2, none⟩)) 57 rfl (by have h5 : ac.eval (.tmp 5) = .pointer (some ⟨g5, 0, none⟩) := hE 5 (by kernel_rfl); unfold execOp; simp only [h5]; go_simp) rfl) ?_
          refine FStepsW.cons (FStepW.go 56 rfl rfl (fun _ _ h => h) fun ac w hS hE => OpTo.pureG (v := .float .f64 h') 58 rfl (by have h57 : ac.eval (.tmp 57) = .pointer (some ⟨g5, 2, none⟩) := hE 57 (by kernel_rfl); have hcell : w.cell? ⟨g5, 2, none⟩ = some (.float .f64 h') := ((HB.out.touch hS (by simp)).cell 2).trans rfl; unfold execOp; simp only [h57]; go_simp) rfl) ?_
          refine FStepsW.cons (FStepW.go 56 rfl rfl (fun _ _ h => h) fun ac w hS hE => OpTo.pureG (v := .pointer (some ⟨g5, 1, none⟩)) 59 rfl (by have h5 : ac.eval (.tmp 5) = .pointer (some ⟨g5, 0, none⟩) := hE 5 (by kernel_rfl); unfold execOp; simp only [h5]; go_simp) rfl) ?_
          refine FStepsW.cons (FStepW.go 56 rfl rfl (fun _ _ h => h) fun ac w hS hE => OpTo.pureG (v := .float .f64 l') 60 rfl (by have h59 : ac.eval (.tmp 59) = .pointer (some ⟨g5, 1, none⟩) := hE 59 (by kernel_rfl); have hcell : w.cell? ⟨g5, 1, none⟩ = some (.float .f64 l') := ((HB.out.touch hS (by simp)).cell 1).trans rfl; unfold execOp; simp only [h59]; go_simp) rfl) ?_
          refine FStepsW.cons (FStepW.go 56 rfl rfl (fun _ _ h => h) fun ac w hS hE => OpTo.callG #[.float .f64 h', .float .f64 l'] 61 rfl rfl Try.func13 (by kernel_rfl) (by kernel_rfl) (argE2 (hE 58 (by kernel_rfl)) (hE 60 (by kernel_rfl))) (cT (HL3.out w)) (fun _ => rfl)) ?_
          refine FStepsW.cons (FStepW.plain rfl fun ac w hS hE => OpTo.pickG false 62 rfl rfl (hE 56 (by kernel_rfl)) (hE 61 (by kernel_rfl))) ?_
          refine FStepsW.cons (FStepW.plain rfl fun ac w hS hE => OpTo.moveG 63 rfl rfl (hE 62 (by kernel_rfl))) ?_
          refine FStepsW.cons (FStepW.go 63 rfl rfl (fun _ _ h => h) fun ac w hS hE => OpTo.pureG (v := .pointer (some ⟨g5, 3, none⟩)) 64 rfl (by have h5 : ac.eval (.tmp 5) = .pointer (some ⟨g5, 0, none⟩) := hE 5 (by kernel_rfl); unfold execOp; simp only [h5]; go_simp) rfl) ?_
          refine FStepsW.cons (FStepW.go 63 rfl rfl (fun _ _ h => h) fun ac w hS hE => OpTo.pureG (v := .int .u64 k') 65 rfl (by have h64 : ac.eval (.tmp 64) = .pointer (some ⟨g5, 3, none⟩) := hE 64 (by kernel_rfl); have hcell : w.cell? ⟨g5, 3, none⟩ = some (.int .u64 k') := ((HB.out.touch hS (by simp)).cell 3).trans rfl; unfold execOp; simp only [h64]; go_simp) rfl) ?_
          refine FStepsW.cons (FStepW.go 63 rfl rfl (fun _ _ h => h) fun ac w hS hE => OpTo.moveG 66 rfl rfl (hE 6 (by kernel_rfl))) ?_
          refine FStepsW.cons (FStepW.go 63 rfl rfl (fun _ _ h => h) fun ac w hS hE => OpTo.pureG (v := .bool false) 67 rfl (by have h65 : ac.eval (.tmp 65) = .int .u64 k' := hE 65 (by kernel_rfl); have h66 : ac.eval (.tmp 66) = .int .u64 k' := hE 66 (by kernel_rfl); unfold execOp; simp only [h65, h66]; go_simp) rfl) ?_
          refine FStepsW.cons (FStepW.plain rfl fun ac w hS hE => OpTo.pickG false 68 rfl rfl (hE 63 (by kernel_rfl)) (hE 67 (by kernel_rfl))) ?_
          refine FStepsW.cons (FStepW.plain rfl fun ac w hS hE => OpTo.moveG 69 rfl rfl (hE 68 (by kernel_rfl))) ?_
          refine FStepsW.cons (FStepW.go 69 rfl rfl (fun _ _ h => h) fun ac w hS hE => OpTo.pureG (v := .pointer (some ⟨g5, 0, none⟩)) 70 rfl (by have h5 : ac.eval (.tmp 5) = .pointer (some ⟨g5, 0, none⟩) := hE 5 (by kernel_rfl); unfold execOp; simp only [h5]; go_simp) rfl) ?_
          refine FStepsW.cons (FStepW.go 69 rfl rfl (fun _ _ h => h) fun ac w hS hE => OpTo.pureG (v := .float .f64 m') 71 rfl (by have h70 : ac.eval (.tmp 70) = .pointer (some ⟨g5, 0, none⟩) := hE 70 (by kernel_rfl); have hcell : w.cell? ⟨g5, 0, none⟩ = some (.float .f64 m') := ((HB.out.touch hS (by simp)).cell 0).trans rfl; unfold execOp; simp only [h70]; go_simp) rfl) ?_
          refine FStepsW.cons (FStepW.go 69 rfl rfl (fun _ _ h => h) fun ac w hS hE => OpTo.callG #[.float .f64 m'] 72 rfl rfl Try.func9 (by kernel_rfl) (by kernel_rfl) (argE1 (hE 71 (by kernel_rfl))) (cT (HK.out w)) (fun _ => rfl)) ?_
          refine FStepsW.cons (FStepW.go 69 rfl rfl (fun _ _ h => h) fun ac w hS hE => OpTo.pureG (v := .bool false) 73 rfl (by have h72 : ac.eval (.tmp 72) = .int .i64 km := hE 72 (by kernel_rfl); have q := k7.out; unfold execOp; simp only [h72]; go_simp) rfl) ?_
          refine FStepsW.cons (FStepW.plain rfl fun ac w hS hE => OpTo.pickG false 74 rfl rfl (hE 69 (by kernel_rfl)) (hE 73 (by kernel_rfl))) ?_
          exact FStepsW.nil
        intro f wx hS hF
        obtain ⟨h74, -⟩ := hF
        replace h74 : f 74 = .bool false := h74
        simp only [setAll, List.setIfInBounds_toArray, List.set_cons_zero, List.set_cons_succ, h74]
        show wpList _ _ _ [] _ _
        -- END
        have HT2 := Lib.hid (HT.out.trans hS)
        have HB2 := Lib.hid (HB.out.touch hS (by simp))
        clear hS
        go_wp2_with fail
        go_roundw
        case rel => exact ⟨i + 1, m', l', h', k', by omega, by omega, by have := HN.out.n; omega, HN.out.i, rfl, by go_num, HB2.out, HT2.out⟩
        case measure => simp [intOf]; omega
    · by_cases h1 : i < n
      · have h2 : ¬ i < 30 := fun h => hlt ⟨h1, h⟩
        clear hlt HR HAd
        go_wp2_with fail
        refine (HF.out _).mono ?_
        rintro e w1 ⟨rfl, ht⟩
        have HT2 := Lib.hid (HT.out.trans ht)
        clear ht
        go_wp2_with fail
        go_ret
        exact ⟨rfl, HT2.out⟩
      · clear hlt HR HAd
        go_wp2_with fail
        refine (HF.out _).mono ?_
        rintro e w1 ⟨rfl, ht⟩
        have HT2 := Lib.hid (HT.out.trans ht)
        clear ht
        go_wp2_with fail
        go_ret
        exact ⟨rfl, HT2.out⟩
end Go.Proofs.Ytbpgbjhjnemaoaa
