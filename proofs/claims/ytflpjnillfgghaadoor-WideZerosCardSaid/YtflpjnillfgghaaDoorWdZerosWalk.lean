/- WideZeros: the walk. -/
import Derived.Test.YtflpjnillfgghaaDoorWrE
namespace Go.Proofs.YtflpjnillfgghaaDoor
open Go Go.RowKit
set_option maxRecDepth 100000 in
set_option maxHeartbeats 4000000 in
theorem zeros_walk (c n : Int) (n0 : 0 ≤ n) (n1 : n < 65536) (w : World) (hV : WideV w) :
    Calls Tryd.prog 6 #[.int .u8 c, .int .u16 n] w fun e w' => e = .returned (.bool true) ∧ Touch [] w w' := by
  have HV := Lib.hid hV
  clear hV
  have q1 := IntWalk.i64_in n (by omega)
  obtain ⟨k, hk⟩ : ∃ k : Nat, n % 301 = (k : Int) := ⟨(n % 301).toNat, by omega⟩
  have hk2 : k ≤ 300 := by omega
  have q2 : n.tmod 301 = (k : Int) := by rw [Int.tmod_eq_emod_of_nonneg n0]; exact hk
  go_enter Tryd.func6, Tryd.ntmps6
  go_wp2_with fail
  go_loopw [5, 6] (fun vs vi wr => ∃ (j : Nat) (x : ByteArray), j ≤ k ∧ vi = .int .i64 (j : Int) ∧ vs = .string x ∧ x.size = j ∧ Touch [] w wr) (fun _ vi _ => k - (intOf vi).toNat)
  case atStart => exact ⟨0, _, by omega, rfl, rfl, rfl, Touch.refl _ _⟩
  case round =>
    obtain ⟨j, x, hj, rfl, rfl, hx, hT⟩ := hrel
    have HT := Lib.hid hT
    have HX := Lib.hid hx
    clear hT
    by_cases hlt : j < k
    · have hc := run_convert_bytes_arg (P := Tryd.prog) (wr.alloc (.cells #[.int .u8 c] 5)) 28 5 Tryd.underlying28 Tryd.underlying5 wr.heap.size 0 1 1 [c] rfl (fun i hi => by
        obtain rfl : i = 0 := by omega
        rw [(Blk.new wr 5 #[.int .u8 c]).cell]
        rfl) 9 Tryd.underlying9
      have hsz : x.size ≤ 300 := by omega
      clear hx
      obtain ⟨y, hy⟩ : ∃ y, y = strOfNums [c] := ⟨_, rfl⟩
      have hys : y.size = 1 := by rw [hy]; rfl
      rw [← hy] at hc
      have HS : Hid ((x ++ y).size = j + 1) := Lib.hid (by rw [ByteArray.size_append, HX.out, hys])
      clear hy
      go_wp2_with fail
      go_roundw
      case rel => exact ⟨j + 1, _, by omega, by go_num, rfl, HS.out, HT.out.alloc _⟩
      case measure => simp [intOf]; omega
    · obtain rfl : j = k := by omega
      have hL : (bl x).length ≤ 1000000 := by rw [bl_len]; omega
      have H1 := Lib.hid (fun (g : Nat) (W : World) (hb : Blk W g 9 ([x].map Value.string).toArray) (h : WideV W) => sum_blk [x] (bl x) (by simp) (by simp) hL g W hb h)
      have H2 := Lib.hid (fun W : World => refSum_any x (by omega) W)
      have H3 := Lib.hid (fun (W : World) (h : WideV W) => fixed_any W h)
      obtain ⟨r, hre⟩ : ∃ r, r = stB (sumS (bl x)) := ⟨_, rfl⟩
      rw [← hre] at H1 H2
      clear hre hL hx
      go_wp2_with fail
      have hb1 := Blk.new wr 9 #[.string x]
      refine (H1.out _ _ hb1 (HV.out.touch (HT.out.alloc _))).mono ?_
      rintro e w1 ⟨rfl, ht1⟩
      have HT1 := Lib.hid ((HT.out.alloc _).trans ht1)
      clear ht1 HT H1 hb1
      go_wp2_with fail
      refine (H2.out _).mono ?_
      rintro e w2 ⟨rfl, ht2⟩
      have HT2 := Lib.hid (HT1.out.trans ht2)
      clear ht2 HT1 H2
      go_wp2_with fail
      refine (H3.out _ (HV.out.touch HT2.out)).mono ?_
      rintro e w3 ⟨rfl, ht3⟩
      have HT3 := Lib.hid (HT2.out.trans ht3)
      clear ht3 HT2 H3
      go_wp2_with fail
      go_ret
      exact ⟨rfl, HT3.out⟩
end Go.Proofs.YtflpjnillfgghaaDoor
