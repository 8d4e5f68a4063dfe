/- WideSums: the walk. -/
import Derived.Test.YtflpjnillfgghaaDoorWrE
namespace Go.Proofs.YtflpjnillfgghaaDoor
open Go Go.RowKit
set_option maxRecDepth 100000 in
set_option maxHeartbeats 4000000 in
theorem sums_walk (s : ByteArray) (w : World) (hV : WideV w) :
    Calls Tryd.prog 3 #[.string s] w fun e w' => e = .returned (.bool true) ∧ Touch [] w w' := by
  have HV := Lib.hid hV
  clear hV
  go_enter Tryd.func3, Tryd.ntmps3
  go_upto_region 1 with fail
  go_cut [0] (fun v0 wx => ∃ x : ByteArray, v0 = .string x ∧ x.size ≤ 600 ∧ ∃ m, wx = w.drewN m)
  case first =>
    by_cases ha : s.size ≤ 600
    · go_wp2_with fail
      try go_quiet (fail)
      try go_wp2_with fail
      go_meet
      exact ⟨_, rfl, by simp; omega, 0, rfl⟩
    · go_wp2_with fail
      try go_quiet (fail)
      try go_wp2_with fail
      go_meet
      exact ⟨_, rfl, by simp; omega, 0, rfl⟩
  case rest =>
    obtain ⟨x, rfl, hx, m, hwx⟩ := hcut
    have HT0 : Hid (Touch [] w wc) := Lib.hid (by rw [hwx]; exact (Touch.refl _ _).drewN m)
    clear hwx
    have hL : (bl x).length ≤ 1000000 := by rw [bl_len]; omega
    have H1 := Lib.hid (fun (g : Nat) (W : World) (hb : Blk W g 9 ([x].map Value.string).toArray) (h : WideV W) => sum_blk [x] (bl x) (by simp) (by simp) hL g W hb h)
    have H2 := Lib.hid (fun W : World => refSum_any x (by omega) W)
    have H3 := Lib.hid (fun (W : World) (h : WideV W) => fixed_any W h)
    obtain ⟨r, hre⟩ : ∃ r, r = stB (sumS (bl x)) := ⟨_, rfl⟩
    rw [← hre] at H1 H2
    clear hre hL hx
    go_wp2_with fail
    have hb1 := Blk.new wc 9 #[.string x]
    refine (H1.out _ _ hb1 (HV.out.touch (HT0.out.alloc _))).mono ?_
    rintro e w1 ⟨rfl, ht1⟩
    have HT1 := Lib.hid ((HT0.out.alloc _).trans ht1)
    clear ht1 HT0 H1 hb1
    go_wp2_with fail
    refine (H2.out _).mono ?_
    rintro e w2 ⟨rfl, ht2⟩
    have HT2 := Lib.hid (HT1.out.trans ht2)
    clear ht2 HT1 H2
    go_wp2_with fail
    refine (H3.out _ (HV.out.touch HT2.out)).mono ?_
    rintro e w3 ⟨rfl, ht3⟩
    have HT3 := Lib.hid (HT2.out.trans ht3)
    clear ht3 HT2 H3
    go_wp2_with fail
    go_ret
    exact ⟨rfl, HT3.out⟩
end Go.Proofs.YtflpjnillfgghaaDoor
