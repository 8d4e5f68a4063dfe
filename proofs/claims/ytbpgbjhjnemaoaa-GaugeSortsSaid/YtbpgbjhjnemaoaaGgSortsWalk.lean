/- GaugeSorts: the walk. -/
import Derived.Test.YtbpgbjhjnemaoaaGgRSorted
import Derived.Test.YtbpgbjhjnemaoaaGgFixed
namespace Go.Proofs.Ytbpgbjhjnemaoaa
open Go Go.RowKit
set_option maxRecDepth 100000 in
set_option maxHeartbeats 2000000 in
theorem sorts_walk (A : Option Addr) (n c : Nat) (d : Nat → Nat) (hn : n ≤ c ∧ c ≤ maxLen) (wA : World) (hrow : RowF wA A n d) :
    Calls Try.prog 5 #[.slice A n c] wA fun e w' => e = .returned (.bool true) ∧ Touch [] wA w' := by
  unfold maxLen at hn
  have HR := Lib.hid hrow
  have HF := Lib.hid (fun W : World => fixed_any W)
  clear hrow
  go_enter Try.func5, Try.ntmps5
  by_cases hle : n ≤ 40
  · cases A
    all_goals
      go_wp2_with fail
      refine (sorted_any _ n c d (by omega) wA (HR.out.pre (by omega))).mono ?_
      rintro e w1 ⟨A1, c1, d1, rfl, hr1, hs1, hc1, ht1⟩
      have H1 := Lib.hid hr1
      have HS1 := Lib.hid hs1
      have HC1 := Lib.hid hc1
      have HT1 := Lib.hid ht1
      clear hr1 hs1 hc1 ht1
      go_wp2_with fail
      refine (rsorted_any _ n c d (by omega) w1 ((HR.out.pre (by omega)).touch HT1.out)).mono ?_
      rintro e w2 ⟨A2, c2, d2, rfl, hr2, hs2, hc2, ht2⟩
      have HQ := Lib.hid (samef_any A1 A2 n c1 c2 d1 d2 (by omega) w2 (H1.out.touch ht2) hr2 (fun i hi => by
        have hk := srt_unique HS1.out hs2 (fun t => (HC1.out t).trans (hc2 t).symm) i hi
        obtain ⟨_, _, _, _, _, b1⟩ := H1.out i hi
        obtain ⟨_, _, _, _, _, b2⟩ := hr2 i hi
        exact (kf_bits b1 b2).2 hk))
      have HT2 := Lib.hid (HT1.out.trans ht2)
      clear hr2 hs2 hc2 ht2 H1 HS1 HC1 HT1
      go_wp2_with fail
      refine HQ.out.mono ?_
      rintro e w3 ⟨rfl, ht3⟩
      have HT3 := Lib.hid (HT2.out.trans ht3)
      clear ht3
      go_wp2_with fail
      refine (HF.out _).mono ?_
      rintro e w4 ⟨rfl, ht4⟩
      have HT4 := Lib.hid (HT3.out.trans ht4)
      clear ht4
      go_wp2_with fail
      go_ret
      exact ⟨rfl, HT4.out⟩
  · cases A
    all_goals
      go_wp2_with fail
      refine (sorted_any _ 40 c d (by omega) wA (HR.out.pre (by omega))).mono ?_
      rintro e w1 ⟨A1, c1, d1, rfl, hr1, hs1, hc1, ht1⟩
      have H1 := Lib.hid hr1
      have HS1 := Lib.hid hs1
      have HC1 := Lib.hid hc1
      have HT1 := Lib.hid ht1
      clear hr1 hs1 hc1 ht1
      go_wp2_with fail
      refine (rsorted_any _ 40 c d (by omega) w1 ((HR.out.pre (by omega)).touch HT1.out)).mono ?_
      rintro e w2 ⟨A2, c2, d2, rfl, hr2, hs2, hc2, ht2⟩
      have HQ := Lib.hid (samef_any A1 A2 40 c1 c2 d1 d2 (by omega) w2 (H1.out.touch ht2) hr2 (fun i hi => by
        have hk := srt_unique HS1.out hs2 (fun t => (HC1.out t).trans (hc2 t).symm) i hi
        obtain ⟨_, _, _, _, _, b1⟩ := H1.out i hi
        obtain ⟨_, _, _, _, _, b2⟩ := hr2 i hi
        exact (kf_bits b1 b2).2 hk))
      have HT2 := Lib.hid (HT1.out.trans ht2)
      clear hr2 hs2 hc2 ht2 H1 HS1 HC1 HT1
      go_wp2_with fail
      refine HQ.out.mono ?_
      rintro e w3 ⟨rfl, ht3⟩
      have HT3 := Lib.hid (HT2.out.trans ht3)
      clear ht3
      go_wp2_with fail
      refine (HF.out _).mono ?_
      rintro e w4 ⟨rfl, ht4⟩
      have HT4 := Lib.hid (HT3.out.trans ht4)
      clear ht4
      go_wp2_with fail
      go_ret
      exact ⟨rfl, HT4.out⟩
end Go.Proofs.Ytbpgbjhjnemaoaa
