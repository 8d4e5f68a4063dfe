/- More statements of layer 1, walked: SatOrder, SatSpans. -/
import Derived.Test.YtfpnciackndbiaaFixed01
import Derived.Test.YtfpnciackndbiaaSatWalks
namespace Go.Proofs.Ytfpnciackndbiaa
open Go.RowKit
def valL : List UInt8 → Nat
  | [] => 0
  | a :: x => a.toNat * 256 ^ x.length + valL x
theorem valL_lt (l : List UInt8) : valL l < 256 ^ l.length := by
  induction l with
  | nil => simp [valL]
  | cons a x ih =>
    have ha := a.toNat_lt
    have h : a.toNat * 256 ^ x.length + 256 ^ x.length ≤ 256 * 256 ^ x.length := by
      rw [← Nat.succ_mul]
      exact Nat.mul_le_mul_right _ (by omega)
    rw [valL, List.length_cons, Nat.pow_succ]
    omega
theorem less_step {a b c x y : Nat} (hx : x < c) (hab : a < b) : a * c + x < b * c + y := by
  have h : a * c + c ≤ b * c := by
    rw [← Nat.succ_mul]
    exact Nat.mul_le_mul_right _ hab
  omega
theorem bytesLess_val : ∀ l m : List UInt8, l.length = m.length → Op.bytesLess l m = decide (valL l < valL m)
  | [], [], _ => rfl
  | [], _ :: _, h => by simp at h
  | _ :: _, [], h => by simp at h
  | a :: x, b :: y, h => by
    have hl : x.length = y.length := by simpa using h
    have hx := valL_lt x
    have hy := valL_lt y
    rw [Op.bytesLess, bytesLess_val x y hl, valL, valL, hl]
    rw [hl] at hx
    by_cases h1 : a.toNat < b.toNat
    · have h2 : a < b := UInt8.lt_iff_toNat_lt.2 h1
      have h3 := less_step (y := valL y) hx h1
      simp [h2, h3]
    · by_cases h4 : a = b
      · subst h4
        have h5 : ¬ a < a := fun h => h1 (UInt8.lt_iff_toNat_lt.1 h)
        simp [h5]
      · have h6 : b.toNat < a.toNat := by
          have : a.toNat ≠ b.toNat := fun e => h4 (UInt8.toNat_inj.1 e)
          omega
        have h7 := less_step (y := valL x) hy h6
        have h5 : ¬ a < b := fun h => h1 (UInt8.lt_iff_toNat_lt.1 h)
        have h8 : ¬ (a.toNat * 256 ^ y.length + valL x < b.toNat * 256 ^ y.length + valL y) := by omega
        simp [h5, h4, h8]
theorem putS_list (n : Int) : (putS n).toList = [UInt8.ofNat (byteS n 7).toNat, UInt8.ofNat (byteS n 6).toNat, UInt8.ofNat (byteS n 5).toNat, UInt8.ofNat (byteS n 4).toNat, UInt8.ofNat (byteS n 3).toNat, UInt8.ofNat (byteS n 2).toNat, UInt8.ofNat (byteS n 1).toNat, UInt8.ofNat (byteS n 0).toNat] := by
  rw [ByteArray.toList_eq]
  rfl
theorem putS_val (n : Int) (hn : 0 ≤ n) (hn' : n < 18446744073709551616) : (valL (putS n).toList : Int) = n := by
  rw [putS_list]
  simp only [valL, List.length_cons, List.length_nil]
  have h := fun i => u8_byte n i
  have e7 := h 7; have e6 := h 6; have e5 := h 5; have e4 := h 4; have e3 := h 3; have e2 := h 2; have e1 := h 1; have e0 := h 0
  generalize (UInt8.ofNat (byteS n 7).toNat).toNat = c7 at *
  generalize (UInt8.ofNat (byteS n 6).toNat).toNat = c6 at *
  generalize (UInt8.ofNat (byteS n 5).toNat).toNat = c5 at *
  generalize (UInt8.ofNat (byteS n 4).toNat).toNat = c4 at *
  generalize (UInt8.ofNat (byteS n 3).toNat).toNat = c3 at *
  generalize (UInt8.ofNat (byteS n 2).toNat).toNat = c2 at *
  generalize (UInt8.ofNat (byteS n 1).toNat).toNat = c1 at *
  generalize (UInt8.ofNat (byteS n 0).toNat).toNat = c0 at *
  clear h
  unfold byteS at *
  omega
theorem putS_less {a b : Int} (ha : 0 ≤ a) (ha' : a < 18446744073709551616) (hb : 0 ≤ b) (hb' : b < 18446744073709551616) : Op.bytesLess (putS a).toList (putS b).toList = decide (a < b) := by
  rw [bytesLess_val _ _ (by rw [putS_list, putS_list]; rfl)]
  have h1 := putS_val a ha ha'
  have h2 := putS_val b hb hb'
  exact decide_eq_decide.2 (by omega)
theorem putS_same {a b : Int} (ha : 0 ≤ a) (ha' : a < 18446744073709551616) (hb : 0 ≤ b) (hb' : b < 18446744073709551616) : ((putS a).toList == (putS b).toList) = (a == b) := by
  have h1 := putS_val a ha ha'
  have h2 := putS_val b hb hb'
  by_cases h : a = b
  · subst h; simp
  · have h3 : (putS a).toList ≠ (putS b).toList := fun e => h (by rw [← h1, ← h2, e])
    rw [beq_false_of_ne h3, beq_false_of_ne h]

set_option maxRecDepth 100000 in
set_option maxHeartbeats 1000000 in
theorem order_walk (a b : Int) (ha : 0 ≤ a) (ha' : a < 18446744073709551616) (hb : 0 ≤ b) (hb' : b < 18446744073709551616) (w : World) :
    Calls Try.prog 7 #[.int .u64 a, .int .u64 b] w fun e w' => e = .returned (.bool true) ∧ Touch [] w w' := by
  have p1 := satPut_any a
  have p2 := satPut_any b
  have hl := putS_less ha ha' hb hb'
  have hs := putS_same ha ha' hb hb'
  have hz := putS_size a
  obtain ⟨p, hp⟩ : ∃ p, p = putS a := ⟨_, rfl⟩
  obtain ⟨q, hq⟩ : ∃ q, q = putS b := ⟨_, rfl⟩
  rw [← hp] at p1 hl hs hz
  rw [← hq] at p2 hl hs
  clear hp hq
  go_enter Try.func7, Try.ntmps7
  go_wp2_with fail
  refine (p1 _).mono ?_
  rintro e w1 ⟨rfl, ht1⟩
  go_wp2_with fail
  refine (p2 _).mono ?_
  rintro e w2 ⟨rfl, ht2⟩
  go_wp2_with fail
  refine (p1 _).mono ?_
  rintro e w3 ⟨rfl, ht3⟩
  go_wp2_with fail
  refine (p2 _).mono ?_
  rintro e w4 ⟨rfl, ht4⟩
  go_wp2_with fail
  refine (p1 _).mono ?_
  rintro e w5 ⟨rfl, ht5⟩
  go_wp2_with fail
  refine (fixed_any _).mono ?_
  rintro e w6 ⟨rfl, ht6⟩
  go_wp2_with fail
  go_ret
  exact ⟨rfl, ((((ht1.trans ht2).trans ht3).trans ht4).trans ht5).trans ht6⟩

theorem spreadS_round {s d : Int} (hs : 0 ≤ s) (hs' : s < 4611686018427387904) (hd : 0 ≤ d) : spreadS s (d + s + 1) = spreadS s d ∧ spreadS s d ≤ s ∧ 0 ≤ spreadS s d ∧ (d ≤ s → spreadS s d = d) := by
  unfold spreadS
  rw [if_neg (by omega), if_neg (by omega), show d + s + 1 = d + (s + 1) by omega, Int.add_emod_right]
  have h1 := Int.emod_lt_of_pos d (show 0 < s + 1 by omega)
  have h2 := Int.emod_nonneg d (show s + 1 ≠ 0 by omega)
  exact ⟨rfl, by omega, h2, fun h => Int.emod_eq_of_lt hd (by omega)⟩
theorem intS_rng {n : Int} (hn : 0 ≤ n) : 0 ≤ intS n ∧ intS n ≤ 4611686018427387904 := by unfold intS; split <;> omega
theorem intS_mono {n d : Int} (hd' : d < 4611686018427387904) : (n ≤ d ↔ intS n ≤ intS d) := by
  unfold intS
  split <;> split <;> omega

set_option maxRecDepth 100000 in
set_option maxHeartbeats 1000000 in
theorem spans_walk (s0 d0 n : Int) (hs : 0 ≤ s0) (hs' : s0 < 18446744073709551616) (hd : 0 ≤ d0) (hd' : d0 < 18446744073709551616) (hn : 0 ≤ n) (w : World) :
    Calls Try.prog 9 #[.int .u64 s0, .int .u64 d0, .int .u64 n] w fun e w' => e = .returned (.bool true) ∧ Touch [] w w' := by
  obtain ⟨s, hse⟩ : ∃ s, s = s0 % 4611686018427387904 := ⟨_, rfl⟩
  obtain ⟨d, hde⟩ : ∃ d, d = d0 % 4611686018427387904 := ⟨_, rfl⟩
  have r1 : 0 ≤ s := by omega
  have r2 : s < 4611686018427387904 := by omega
  have r3 : 0 ≤ d := by omega
  have r4 : d < 4611686018427387904 := by omega
  have Hse := Lib.hid hse; have Hde := Lib.hid hde
  clear hse hde
  have h1 := satSpread_any s d r1 (by omega) r3 (by omega)
  have h2 := satSpread_any s (d + s + 1) r1 (by omega) (by omega) (by omega)
  have hr := spreadS_round r1 r2 r3
  rw [hr.1] at h2
  obtain ⟨x, hx⟩ : ∃ x, x = spreadS s d := ⟨_, rfl⟩
  rw [← hx] at h1 h2 hr
  clear hx
  obtain ⟨hx0, hx1, hx2, hx3⟩ := hr
  clear hx0
  have Hx3 := Lib.hid hx3; clear hx3
  have h3 := satInt_any n hn
  have h4 := satInt_any d r3
  have hi := intS_rng hn
  have hm := intS_mono (n := n) (d := d) r4
  obtain ⟨i, hie⟩ : ∃ i, i = intS n := ⟨_, rfl⟩
  obtain ⟨j, hje⟩ : ∃ j, j = intS d := ⟨_, rfl⟩
  rw [← hie] at h3 hi hm
  rw [← hje] at h4 hm
  clear hie hje
  obtain ⟨hi1, hi2⟩ := hi
  have hmd : (decide (n ≤ d) == decide (i ≤ j)) = true := by simp [hm]
  have Hm := Lib.hid hm; clear hm
  go_enter Try.func9, Try.ntmps9
  go_wp2_with fail
  rw [← Hse.out, ← Hde.out]
  refine (h1 _).mono ?_
  rintro e w' ⟨rfl, rfl⟩
  go_wp2_with fail
  refine (h3 _).mono ?_
  rintro e w' ⟨rfl, rfl⟩
  go_wp2_with fail
  refine (h4 _).mono ?_
  rintro e w' ⟨rfl, rfl⟩
  go_wp2_with fail
  refine (h2 _).mono ?_
  rintro e w' ⟨rfl, rfl⟩
  by_cases hds : s < d
  · by_cases hnd : n ≤ d
    · have hij : i ≤ j := Hm.out.1 hnd
      clear hmd
      go_wp2_with fail
      refine (fixed_any _).mono ?_
      rintro e w' ⟨rfl, ht⟩
      go_wp2_with fail
      go_ret
      exact ⟨rfl, ht⟩
    · have hij : ¬ i ≤ j := fun h => hnd (Hm.out.2 h)
      clear hmd
      have hd1 : decide (n ≤ d) = false := by simp; omega
      have hd2 : decide (i ≤ j) = false := by simp; omega
      go_wp2_with fail
      refine (fixed_any _).mono ?_
      rintro e w' ⟨rfl, ht⟩
      go_wp2_with fail
      go_ret
      exact ⟨rfl, ht⟩
  · obtain rfl : x = d := Hx3.out (by omega)
    by_cases hnd : n ≤ x
    · have hij : i ≤ j := Hm.out.1 hnd
      clear hmd
      go_wp2_with fail
      refine (fixed_any _).mono ?_
      rintro e w' ⟨rfl, ht⟩
      go_wp2_with fail
      go_ret
      exact ⟨rfl, ht⟩
    · have hij : ¬ i ≤ j := fun h => hnd (Hm.out.2 h)
      clear hmd
      have hd1 : decide (n ≤ x) = false := by simp; omega
      have hd2 : decide (i ≤ j) = false := by simp; omega
      go_wp2_with fail
      refine (fixed_any _).mono ?_
      rintro e w' ⟨rfl, ht⟩
      go_wp2_with fail
      go_ret
      exact ⟨rfl, ht⟩
end Go.Proofs.Ytfpnciackndbiaa
