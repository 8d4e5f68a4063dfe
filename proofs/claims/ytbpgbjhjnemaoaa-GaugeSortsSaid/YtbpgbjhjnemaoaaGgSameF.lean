/- 'same' of two rows of numbers: the walk. -/
import Derived.Test.YtbpgbjhjnemaoaaGgSorted
import Derived.Test.YtbpgbjhjnemaoaaGgRKind
import Derived.Test.YtbpgbjhjnemaoaaGFlow
namespace Go.Proofs.Ytbpgbjhjnemaoaa
open Go Go.RowKit
set_option maxRecDepth 100000 in
set_option maxHeartbeats 8000000 in
theorem samef_any (A B : Option Addr) (n c c2 : Nat) (d e : Nat → Nat) (_hn : n ≤ 1000) (wA : World) (hd : RowF wA A n d) (he : RowF wA B n e) (heq : ∀ i, i < n → bitsF (d i) = bitsF (e i)) :
    Calls Try.prog 23 #[.slice A n c, .slice B n c2] wA fun e w' => e = .returned (.bool true) ∧ Touch [] wA w' := by
  have HD := Lib.hid hd
  have HE := Lib.hid he
  have HQ := Lib.hid heq
  clear hd he heq
  go_enter Try.func23, Try.ntmps23
  go_wp2_with fail
  go_loopw [5] (fun vi wr => ∃ (i : Nat), i ≤ n ∧ vi = .int .i64 (i : Int) ∧ Touch [] wA wr) (fun vi _ => n - (intOf vi).toNat)
  case atStart => exact ⟨0, by omega, rfl, Touch.refl [] wA⟩
  case round =>
    obtain ⟨i, hin, rfl, ht⟩ := hrel
    have HT := Lib.hid ht
    clear ht
    by_cases hlt : i < n
    · obtain ⟨g, o, rfl, hg, hcell, hbd⟩ := HD.out i hlt
      obtain ⟨g', o', rfl, hg', hcell', hbd'⟩ := HE.out i hlt
      have hq := HQ.out i hlt
      obtain ⟨x, hx⟩ : ∃ x, x = d i := ⟨_, rfl⟩
      obtain ⟨y, hy⟩ : ∃ y, y = e i := ⟨_, rfl⟩
      rw [← hx] at hcell hbd hq
      rw [← hy] at hcell' hbd' hq
      have HC := Lib.hid ((HT.out.cell (p := ⟨g, o + i, none⟩) hg (by simp)).trans hcell)
      have Hgl := Lib.hid (Nat.lt_of_lt_of_le hg HT.out.size)
      have HC2 := Lib.hid ((HT.out.cell (p := ⟨g', o' + i, none⟩) hg' (by simp)).trans hcell')
      have Hgl2 := Lib.hid (Nat.lt_of_lt_of_le hg' HT.out.size)
      have hz1 := fun W : World => rbits_any x hbd W
      have hz2 := fun W : World => rbits_any y hbd' W
      rw [← hq] at hz2
      obtain ⟨z, hz⟩ : ∃ z : Int, z = (bitsF x : Int) := ⟨_, rfl⟩
      rw [← hz] at hz1 hz2
      have HZ1 := Lib.hid hz1
      have HZ2 := Lib.hid hz2
      have q1 := Lib.hid (show (0 : Int) ≤ (i : Int) ∧ (i : Int) < (n : Int) by omega)
      clear hz1 hz2 hz hq hcell hcell' hbd hbd' hx hy hg hg'
      go_upto_region 6 with fail
      -- GF same6
      refine wp_region_flowT (by kernel_rfl) 11 (lookW [(0, pu (isV (.slice (some ⟨g, o, none⟩) n c))), (1, pu (isV (.slice (some ⟨g', o', none⟩) n c2))), (5, pu (isV (.int .i64 (i : Int)))), (17, pu (isV (.slice (some ⟨g, o, none⟩) n c))), (18, pu (isV (.int .i64 (i : Int)))), (19, pu (isV (.pointer (some ⟨g, o + i, none⟩)))), (20, pu (isV (.float .f64 x))), (21, pu (isV (.int .u64 z))), (22, pu (isV (.slice (some ⟨g', o', none⟩) n c2))), (23, pu (isV (.int .i64 (i : Int)))), (24, pu (isV (.pointer (some ⟨g', o' + i, none⟩)))), (25, pu (isV (.float .f64 y))), (26, pu (isV (.int .u64 z))), (27, pu (isV (.bool false)))]) [0, 1, 5] [17, 18, 19, 20, 21, 22, 23, 24, 25, 26, 27] [27] (by kernel_rfl) (by kernel_rfl) (by kernel_rfl) (by kernel_rfl) ⟨rfl, rfl, rfl, trivial⟩ ?_ ?_
      · refine FStepsW.cons (FStepW.plain rfl fun ac w hS hE => OpTo.moveG 17 rfl rfl (hE 0 (by kernel_rfl))) ?_
        refine FStepsW.cons (FStepW.plain rfl fun ac w hS hE => OpTo.moveG 18 rfl rfl (hE 5 (by kernel_rfl))) ?_
        refine FStepsW.cons (FStepW.plain rfl fun ac w hS hE => OpTo.pureG (v := .pointer (some ⟨g, o + i, none⟩)) 19 rfl (by have h17 : ac.eval (.tmp 17) = .slice (some ⟨g, o, none⟩) n c := hE 17 (by kernel_rfl); have h18 : ac.eval (.tmp 18) = .int .i64 (i : Int) := hE 18 (by kernel_rfl); have q := q1.out; unfold execOp; simp only [h17, h18]; go_simp) rfl) ?_
        refine FStepsW.cons (FStepW.plain rfl fun ac w hS hE => OpTo.pureG (v := .float .f64 x) 20 rfl (by have h19 : ac.eval (.tmp 19) = .pointer (some ⟨g, o + i, none⟩) := hE 19 (by kernel_rfl); have hcell : w.cell? ⟨g, o + i, none⟩ = some (.float .f64 x) := (hS.cell (p := ⟨g, o + i, none⟩) Hgl.out (by simp)).trans HC.out; unfold execOp; simp only [h19]; go_simp) rfl) ?_
        refine FStepsW.cons (FStepW.plain rfl fun ac w hS hE => OpTo.callG #[.float .f64 x] 21 rfl rfl Try.func12 (by kernel_rfl) (by kernel_rfl) (argE1 (hE 20 (by kernel_rfl))) (cT (HZ1.out w)) (fun _ => rfl)) ?_
        refine FStepsW.cons (FStepW.plain rfl fun ac w hS hE => OpTo.moveG 22 rfl rfl (hE 1 (by kernel_rfl))) ?_
        refine FStepsW.cons (FStepW.plain rfl fun ac w hS hE => OpTo.moveG 23 rfl rfl (hE 5 (by kernel_rfl))) ?_
        refine FStepsW.cons (FStepW.plain rfl fun ac w hS hE => OpTo.pureG (v := .pointer (some ⟨g', o' + i, none⟩)) 24 rfl (by have h22 : ac.eval (.tmp 22) = .slice (some ⟨g', o', none⟩) n c2 := hE 22 (by kernel_rfl); have h23 : ac.eval (.tmp 23) = .int .i64 (i : Int) := hE 23 (by kernel_rfl); have q := q1.out; unfold execOp; simp only [h22, h23]; go_simp) rfl) ?_
        refine FStepsW.cons (FStepW.plain rfl fun ac w hS hE => OpTo.pureG (v := .float .f64 y) 25 rfl (by have h24 : ac.eval (.tmp 24) = .pointer (some ⟨g', o' + i, none⟩) := hE 24 (by kernel_rfl); have hcell : w.cell? ⟨g', o' + i, none⟩ = some (.float .f64 y) := (hS.cell (p := ⟨g', o' + i, none⟩) Hgl2.out (by simp)).trans HC2.out; unfold execOp; simp only [h24]; go_simp) rfl) ?_
        refine FStepsW.cons (FStepW.plain rfl fun ac w hS hE => OpTo.callG #[.float .f64 y] 26 rfl rfl Try.func12 (by kernel_rfl) (by kernel_rfl) (argE1 (hE 25 (by kernel_rfl))) (cT (HZ2.out w)) (fun _ => rfl)) ?_
        refine FStepsW.cons (FStepW.plain rfl fun ac w hS hE => OpTo.pureG (v := .bool false) 27 rfl (by have h21 : ac.eval (.tmp 21) = .int .u64 z := hE 21 (by kernel_rfl); have h26 : ac.eval (.tmp 26) = .int .u64 z := hE 26 (by kernel_rfl); unfold execOp; simp only [h21, h26]; go_simp) rfl) ?_
        exact FStepsW.nil
      intro f wx hS hF
      obtain ⟨h27, -⟩ := hF
      replace h27 : f 27 = .bool false := h27
      simp only [setAll, List.setIfInBounds_toArray, List.set_cons_zero, List.set_cons_succ, h27]
      show wpList _ _ _ [] _ _
      -- END
      have HT2 := Lib.hid (HT.out.trans hS)
      clear hS
      go_wp2_with fail
      go_roundw
      case rel => exact ⟨i + 1, by omega, by go_num, HT2.out⟩
      case measure => simp [intOf]; omega
    · go_wp2_with fail
      go_ret
      exact ⟨rfl, HT.out⟩
end Go.Proofs.Ytbpgbjhjnemaoaa
