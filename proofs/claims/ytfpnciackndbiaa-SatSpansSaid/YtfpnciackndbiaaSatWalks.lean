/- The statements of layer 1, walked: each answers true. -/
import Derived.Test.YtfpnciackndbiaaFixed01
namespace Go.Proofs.Ytfpnciackndbiaa
open Go.RowKit
abbrev RetT (w : World) : Ending → World → Prop := fun e w' => e = .returned (.bool true) ∧ Touch [] w w'

set_option maxRecDepth 100000 in
set_option maxHeartbeats 1000000 in
theorem tells_walk (a b k : Int) (ha : 0 ≤ a) (ha' : a < 18446744073709551616) (hb : 0 ≤ b) (hb' : b < 18446744073709551616) (hk : -9223372036854775808 ≤ k) (hk' : k < 9223372036854775808) (w : World) :
    Calls Try.prog 3 #[.int .u64 a, .int .u64 b, .int .i64 k] w fun e w' => e = .returned (.bool true) ∧ Touch [] w w' := by
  go_enter Try.func3, Try.ntmps3
  go_wp2_with fail
  refine (satAdd_any a b ha ha' hb hb' _).mono ?_
  rintro e w' ⟨rfl, rfl⟩
  go_wp2_with fail
  refine (refAdd_any a b ha ha' hb hb' _).mono ?_
  rintro e w' ⟨rfl, rfl⟩
  go_wp2_with fail
  refine (satSub_any a b ha ha' hb hb' _).mono ?_
  rintro e w' ⟨rfl, rfl⟩
  go_wp2_with fail
  refine (refSub_any a b ha ha' hb hb' _).mono ?_
  rintro e w' ⟨rfl, rfl⟩
  go_wp2_with fail
  refine (satMul_any a b ha ha' hb hb' _).mono ?_
  rintro e w' ⟨rfl, rfl⟩
  go_wp2_with fail
  refine (refMul_any a b ha ha' hb hb' _).mono ?_
  rintro e w' ⟨rfl, rfl⟩
  go_wp2_with fail
  refine (satBack_any a k b ha ha' hk hk' hb hb' _).mono ?_
  rintro e w' ⟨rfl, rfl⟩
  go_wp2_with fail
  refine (refBack_any a k b ha ha' hk hk' hb hb' _).mono ?_
  rintro e w' ⟨rfl, rfl⟩
  go_wp2_with fail
  refine (satSpread_any a b ha ha' hb hb' _).mono ?_
  rintro e w' ⟨rfl, rfl⟩
  go_wp2_with fail
  refine (refSpread_any a b ha ha' hb hb' _).mono ?_
  rintro e w' ⟨rfl, rfl⟩
  go_wp2_with fail
  refine (satCut_any a b 1099511627776 _).mono ?_
  rintro e w' ⟨rfl, rfl⟩
  go_wp2_with fail
  refine (refCut_any a b 1099511627776 _).mono ?_
  rintro e w' ⟨rfl, rfl⟩
  go_wp2_with fail
  refine (satInt_any a ha _).mono ?_
  rintro e w' ⟨rfl, rfl⟩
  go_wp2_with fail
  refine (refInt_any a ha _).mono ?_
  rintro e w' ⟨rfl, rfl⟩
  go_wp2_with fail
  refine (fixed_any _).mono ?_
  rintro e w' ⟨rfl, ht⟩
  go_wp2_with fail
  go_ret
  exact ⟨rfl, ht⟩

theorem putS_size (n : Int) : (putS n).size = 8 := by unfold putS; rw [strOfNums_size]; rfl
theorem u8_byte (n : Int) (i : Nat) : ((UInt8.ofNat (byteS n i).toNat).toNat : Int) = byteS n i := by
  have h0 : 0 ≤ byteS n i := Int.emod_nonneg _ (by decide)
  have h1 : byteS n i < 256 := Int.emod_lt_of_pos _ (by decide)
  rw [UInt8.toNat_ofNat']
  omega
theorem getS_put (n : Int) (hn : 0 ≤ n) (hn' : n < 18446744073709551616) : getS (putS n) 8 = n := by
  have h : getS (putS n) 8 = ((((((((0 * 256 + byteS n 7) * 256 + byteS n 6) * 256 + byteS n 5) * 256 + byteS n 4) * 256 + byteS n 3) * 256 + byteS n 2) * 256 + byteS n 1) * 256 + byteS n 0) := by
    rw [← u8_byte n 7, ← u8_byte n 6, ← u8_byte n 5, ← u8_byte n 4, ← u8_byte n 3, ← u8_byte n 2, ← u8_byte n 1, ← u8_byte n 0]
    rfl
  rw [h]
  unfold byteS
  omega

theorem get_both (s : ByteArray) : ∃ a c : Int, (∀ W : World, Calls Try.prog 25 #[.string s] W fun e w' => e = .returned (.tuple #[.int .u64 a, .int .i64 c]) ∧ Touch [] W w') ∧
    (∀ W : World, Calls Try.prog 26 #[.string s] W fun e w' => e = .returned (.tuple #[.int .u64 a, .int .i64 c]) ∧ Touch [] W w') := by
  by_cases h1 : s.size < 8
  · refine ⟨0, 2, fun W => ?_, fun W => ?_⟩
    · have h := satGet_any s W
      rw [if_pos h1] at h
      exact h
    · have h := refGet_any s W
      rw [if_pos h1] at h
      exact h
  by_cases h2 : 8 < s.size
  · refine ⟨0, 4, fun W => ?_, fun W => ?_⟩
    · have h := satGet_any s W
      rw [if_neg h1, if_pos h2] at h
      exact h
    · have h := refGet_any s W
      rw [if_neg h1, if_pos h2] at h
      exact h
  · refine ⟨getS s 8, 0, fun W => ?_, fun W => ?_⟩
    · have h := satGet_any s W
      rw [if_neg h1, if_neg h2] at h
      exact h
    · have h := refGet_any s W
      rw [if_neg h1, if_neg h2] at h
      exact h
theorem get_put (n : Int) (hn : 0 ≤ n) (hn' : n < 18446744073709551616) (W : World) : Calls Try.prog 25 #[.string (putS n)] W fun e w' => e = .returned (.tuple #[.int .u64 n, .int .i64 0]) ∧ Touch [] W w' := by
  have h := satGet_any (putS n) W
  rw [putS_size, if_neg (by omega), if_neg (by omega), getS_put n hn hn'] at h
  exact h

set_option maxRecDepth 100000 in
set_option maxHeartbeats 1000000 in
theorem bytes_walk (n : Int) (hn : 0 ≤ n) (hn' : n < 18446744073709551616) (s : ByteArray) (w : World) :
    Calls Try.prog 4 #[.int .u64 n, .string s] w fun e w' => e = .returned (.bool true) ∧ Touch [] w w' := by
  have hgp := get_put n hn hn'
  obtain ⟨p, hp⟩ : ∃ p, p = putS n := ⟨_, rfl⟩
  have hput : ∀ W : World, Calls Try.prog 27 #[.int .u64 n] W fun e w' => e = .returned (.string p) ∧ Touch [] W w' := by rw [hp]; exact satPut_any n
  have hput' : ∀ W : World, Calls Try.prog 28 #[.int .u64 n] W fun e w' => e = .returned (.string p) ∧ Touch [] W w' := by rw [hp]; exact refPut_any n hn hn'
  rw [← hp] at hgp
  clear hp
  have hpp : (p.toList == p.toList) = true := by simp
  obtain ⟨a1, c1, hA1, hB1⟩ := get_both (s.extract 0 20)
  obtain ⟨a2, c2, hA2, hB2⟩ := get_both s
  go_enter Try.func4, Try.ntmps4
  go_wp2_with fail
  · refine (hA1 _).mono ?_
    rintro e w1 ⟨rfl, ht1⟩
    go_wp2_with fail
    refine (hB1 _).mono ?_
    rintro e w2 ⟨rfl, ht2⟩
    go_wp2_with fail
    refine (hput _).mono ?_
    rintro e w3 ⟨rfl, ht3⟩
    go_wp2_with fail
    refine (hgp _).mono ?_
    rintro e w4 ⟨rfl, ht4⟩
    go_wp2_with fail
    refine (hput _).mono ?_
    rintro e w5 ⟨rfl, ht5⟩
    go_wp2_with fail
    refine (hput' _).mono ?_
    rintro e w6 ⟨rfl, ht6⟩
    go_wp2_with fail
    refine (fixed_any _).mono ?_
    rintro e w7 ⟨rfl, ht7⟩
    go_wp2_with fail
    go_ret
    exact ⟨rfl, (((((ht1.trans ht2).trans ht3).trans ht4).trans ht5).trans ht6).trans ht7⟩
  · refine (hA2 _).mono ?_
    rintro e w1 ⟨rfl, ht1⟩
    go_wp2_with fail
    refine (hB2 _).mono ?_
    rintro e w2 ⟨rfl, ht2⟩
    go_wp2_with fail
    refine (hput _).mono ?_
    rintro e w3 ⟨rfl, ht3⟩
    go_wp2_with fail
    refine (hgp _).mono ?_
    rintro e w4 ⟨rfl, ht4⟩
    go_wp2_with fail
    refine (hput _).mono ?_
    rintro e w5 ⟨rfl, ht5⟩
    go_wp2_with fail
    refine (hput' _).mono ?_
    rintro e w6 ⟨rfl, ht6⟩
    go_wp2_with fail
    refine (fixed_any _).mono ?_
    rintro e w7 ⟨rfl, ht7⟩
    go_wp2_with fail
    go_ret
    exact ⟨rfl, (((((ht1.trans ht2).trans ht3).trans ht4).trans ht5).trans ht6).trans ht7⟩
end Go.Proofs.Ytfpnciackndbiaa
