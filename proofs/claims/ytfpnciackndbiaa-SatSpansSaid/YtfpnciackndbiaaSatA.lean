/- The functions of sat and of syngraphref01 on numbers of 64 bits, each by what it answers. -/
import Derived.Test.YtfpnciackndbiaaRows
import Derived.WalkKit
import Derived.WalkLawsBesides
import Derived.Lib.Hide
import Derived.Lib.Mul64
import Derived.Laws.Bits64b
import Derived.Test.YtfpnciackndbiaaMem
import Derived.Test.YtfpnciackndbiaaAdd
namespace Go.Proofs.Ytfpnciackndbiaa
open Go.RowKit
theorem refAdd_any (x y : Int) (hx : 0 ≤ x) (hx' : x < 18446744073709551616) (hy : 0 ≤ y) (hy' : y < 18446744073709551616) (w : World) :
    Calls Try.prog 11 #[.int .u64 x, .int .u64 y] w fun e w' => e = .returned (.int .u64 (addS x y)) ∧ w = w' := by
  by_cases h : x + y < 18446744073709551616
  · go_enter Try.func11, Try.ntmps11
    go_wp2
    go_ret
    exact ⟨ret_int (by unfold addS; rw [if_pos h]), rfl⟩
  · go_enter Try.func11, Try.ntmps11
    go_wp2
    go_ret
    exact ⟨ret_int (by unfold addS; rw [if_neg (by omega)]), rfl⟩

def subS (x y : Int) : Int := if x < y then 0 else x - y

theorem satSub_any (x y : Int) (hx : 0 ≤ x) (hx' : x < 18446744073709551616) (hy : 0 ≤ y) (hy' : y < 18446744073709551616) (w : World) :
    Calls Try.prog 12 #[.int .u64 x, .int .u64 y] w fun e w' => e = .returned (.int .u64 (subS x y)) ∧ w = w' := by
  by_cases h : x < y
  · have h1 : (x < y) = True := eq_true h
    go_enter Try.func12, Try.ntmps12
    go_wp2
    go_ret
    exact ⟨ret_int (by unfold subS; rw [if_pos h]), rfl⟩
  · have h1 : (x < y) = False := eq_false h
    go_enter Try.func12, Try.ntmps12
    go_wp2
    go_ret
    exact ⟨ret_int (by unfold subS; rw [if_neg (by omega)]), rfl⟩

theorem refSub_any (x y : Int) (hx : 0 ≤ x) (hx' : x < 18446744073709551616) (hy : 0 ≤ y) (hy' : y < 18446744073709551616) (w : World) :
    Calls Try.prog 13 #[.int .u64 x, .int .u64 y] w fun e w' => e = .returned (.int .u64 (subS x y)) ∧ w = w' := by
  by_cases h : x < y
  · go_enter Try.func13, Try.ntmps13
    go_wp2
    go_ret
    exact ⟨ret_int (by unfold subS; rw [if_pos h]), rfl⟩
  · go_enter Try.func13, Try.ntmps13
    go_wp2
    go_ret
    exact ⟨ret_int (by unfold subS; rw [if_neg (by omega)]), rfl⟩

namespace Mul
theorem maskN (a : Nat) (ha : a < 18446744073709551616) : bits .and .u64 (a : Int) 4294967295 = ((a % 4294967296 : Nat) : Int) := by
  have h := bits_and_u64_nat a 4294967295 ha (by omega)
  have e : a &&& 4294967295 = a % 4294967296 := Nat.and_two_pow_sub_one_eq_mod a 32
  rw [e] at h
  exact h
theorem divN (a : Nat) : (a : Int) / 4294967296 = ((a / 4294967296 : Nat) : Int) := by omega
theorem mulN (a b : Nat) : (a : Int) * (b : Int) = ((a * b : Nat) : Int) := (Int.natCast_mul a b).symm
theorem addN (a b : Nat) : (a : Int) + (b : Int) = ((a + b : Nat) : Int) := (Int.natCast_add a b).symm
theorem wrapN (a : Nat) (ha : a < 18446744073709551616) : IntKind.u64.wrap (a : Int) = (a : Int) := by rw [IntKind.wrap_u64]; omega
theorem wrapM (a : Nat) : IntKind.u64.wrap (a : Int) = ((a % 18446744073709551616 : Nat) : Int) := by rw [IntKind.wrap_u64]; omega
end Mul

set_option maxRecDepth 100000 in
set_option maxHeartbeats 1000000 in
theorem run_Mul64 (x y : Nat) (hx : x < 18446744073709551616) (hy : y < 18446744073709551616) (w : World) :
    Calls Try.prog 30 #[.int .u64 x, .int .u64 y] w fun e w' => e = .returned (.tuple #[.int .u64 ((x * y / 18446744073709551616 : Nat) : Int), .int .u64 ((x * y % 18446744073709551616 : Nat) : Int)]) ∧ w = w' := by
  obtain ⟨bd, bt, bw, hhi⟩ := Lib.mul64_hi x y hx hy
  have ba := Lib.half_mul_le (a := x / 4294967296) (b := y / 4294967296) (by omega) (by omega)
  have bb := Lib.half_mul_le (a := x / 4294967296) (b := y % 4294967296) (by omega) (by omega)
  have bc := Lib.half_mul_le (a := x % 4294967296) (b := y / 4294967296) (by omega) (by omega)
  have ba' : x / 4294967296 * (y / 4294967296) < 18446744073709551616 := by omega
  have bb' : x / 4294967296 * (y % 4294967296) < 18446744073709551616 := by omega
  have bc' : x % 4294967296 * (y / 4294967296) < 18446744073709551616 := by omega
  have bh1 : x / 4294967296 * (y / 4294967296) + (x / 4294967296 * (y % 4294967296) + x % 4294967296 * (y % 4294967296) / 4294967296) / 4294967296 < 18446744073709551616 := by omega
  have bh : x / 4294967296 * (y / 4294967296) + (x / 4294967296 * (y % 4294967296) + x % 4294967296 * (y % 4294967296) / 4294967296) / 4294967296 + ((x / 4294967296 * (y % 4294967296) + x % 4294967296 * (y % 4294967296) / 4294967296) % 4294967296 + x % 4294967296 * (y / 4294967296)) / 4294967296 < 18446744073709551616 := by omega
  go_enter Try.func30, Try.ntmps30
  go_wp2
  simp only [Mul.maskN x hx, Mul.maskN y hy, Mul.divN, Mul.mulN, Mul.addN, Mul.wrapN _ bd, Mul.wrapN _ bb', Mul.wrapN _ bt, Mul.maskN _ bt, Mul.wrapN _ bc', Mul.wrapN _ bw, Mul.wrapN _ ba', Mul.wrapN _ bh1, Mul.wrapN _ bh, Mul.wrapM (x * y)]
  rw [hhi]
  go_ret2
  exact ⟨rfl, rfl⟩

def mulS (x y : Int) : Int := if x * y < 18446744073709551616 then x * y else 18446744073709551615

theorem satMul_any (x y : Int) (hx : 0 ≤ x) (hx' : x < 18446744073709551616) (hy : 0 ≤ y) (hy' : y < 18446744073709551616) (w : World) :
    Calls Try.prog 14 #[.int .u64 x, .int .u64 y] w fun e w' => e = .returned (.int .u64 (mulS x y)) ∧ w = w' := by
  have hrun : ∃ hi lo : Int, (∀ W : World, Calls Try.prog 30 #[.int .u64 x, .int .u64 y] W fun e w' => e = .returned (.tuple #[.int .u64 hi, .int .u64 lo]) ∧ W = w') ∧ ((hi = 0 ∧ mulS x y = lo) ∨ ((0 < hi) ∧ mulS x y = 18446744073709551615)) := by
    obtain ⟨a, rfl⟩ : ∃ a : Nat, x = a := ⟨x.toNat, by omega⟩
    obtain ⟨b, rfl⟩ : ∃ b : Nat, y = b := ⟨y.toNat, by omega⟩
    refine ⟨_, _, fun W => run_Mul64 a b (by omega) (by omega) W, ?_⟩
    unfold mulS
    rw [Mul.mulN]
    generalize a * b = c
    by_cases h : (c : Int) < 18446744073709551616
    · exact .inl ⟨by omega, by rw [if_pos h]; omega⟩
    · exact .inr ⟨by omega, by rw [if_neg h]⟩
  obtain ⟨s, c, hrun, hc⟩ := hrun
  clear hx hx' hy hy'
  rcases hc with ⟨rfl, hs⟩ | ⟨hpos, hs⟩
  · have Hs := Lib.hid hs; clear hs
    go_enter Try.func14, Try.ntmps14
    go_wp2_with (go_at_call 30; refine (hrun _).mono ?_; rintro e w' ⟨rfl, rfl⟩)
    go_ret
    exact ⟨ret_int Hs.out.symm, rfl⟩
  · have Hs := Lib.hid hs; clear hs
    go_enter Try.func14, Try.ntmps14
    go_wp2_with (go_at_call 30; refine (hrun _).mono ?_; rintro e w' ⟨rfl, rfl⟩)
    go_ret
    exact ⟨ret_int Hs.out.symm, rfl⟩

theorem refMul_any (x y : Int) (hx : 0 ≤ x) (hx' : x < 18446744073709551616) (hy : 0 ≤ y) (hy' : y < 18446744073709551616) (w : World) :
    Calls Try.prog 15 #[.int .u64 x, .int .u64 y] w fun e w' => e = .returned (.int .u64 (mulS x y)) ∧ w = w' := by
  have _ := hx'
  by_cases h0 : y = 0
  · subst h0
    go_enter Try.func15, Try.ntmps15
    go_wp2
    go_ret
    exact ⟨ret_int (by unfold mulS; simp), rfl⟩
  have hq : ∃ q : Int, q = 18446744073709551615 / y := ⟨_, rfl⟩
  obtain ⟨q, hq⟩ := hq
  have hiff : x ≤ q ↔ x * y ≤ 18446744073709551615 := by
    rw [hq]; exact Int.le_ediv_iff_mul_le (by omega)
  by_cases h : x ≤ q
  · have hm : x * y < 18446744073709551616 := by have := hiff.1 h; omega
    have hm0 : 0 ≤ x * y := Int.mul_nonneg hx hy
    have hw : IntKind.u64.wrap (x * y) = x * y := by rw [IntKind.wrap_u64]; omega
    clear hiff
    go_enter Try.func15, Try.ntmps15
    go_wp2
    go_ret
    exact ⟨ret_int (by unfold mulS; rw [if_pos hm]), rfl⟩
  · have hm : ¬ x * y < 18446744073709551616 := by have := mt hiff.2 h; omega
    have Hm := Lib.hid hm; clear hm
    clear hiff
    go_enter Try.func15, Try.ntmps15
    go_wp2
    go_ret
    exact ⟨ret_int (by unfold mulS; have := Hm.out; rw [if_neg (by omega)]), rfl⟩
end Go.Proofs.Ytfpnciackndbiaa
