/- math/bits.Mul64. -/
import Derived.Test.YtcnmpflbmnnkbaaDoorLoad
namespace Go.Proofs.YtcnmpflbmnnkbaaDoor
open Go.RowKit
theorem mask32 (x : Nat) (hx : x < 18446744073709551616) : bits .and .u64 (x : Int) 4294967295 = ((x % 4294967296 : Nat) : Int) := by
  have h := bits_and_u64_nat x 4294967295 hx (by omega)
  rw [show (4294967295 : Nat) = 2 ^ 32 - 1 by decide, Nat.and_two_pow_sub_one_eq_mod] at h
  exact h
theorem mul_lt32 {a b : Nat} (ha : a < 4294967296) (hb : b < 4294967296) : a * b ≤ 18446744065119617025 := by
  have := Nat.mul_le_mul (show a ≤ 4294967295 by omega) (show b ≤ 4294967295 by omega)
  omega
theorem mul_hi (x y : Nat) (hx : x < 18446744073709551616) (hy : y < 18446744073709551616) :
    (IntKind.u64.wrap (IntKind.u64.wrap (IntKind.u64.wrap ((x : Int) / 4294967296 * ((y : Int) / 4294967296)) + IntKind.u64.wrap (IntKind.u64.wrap ((x : Int) / 4294967296 * bits .and .u64 (y : Int) 4294967295) + IntKind.u64.wrap (bits .and .u64 (x : Int) 4294967295 * bits .and .u64 (y : Int) 4294967295) / 4294967296) / 4294967296) +
      IntKind.u64.wrap (bits .and .u64 (IntKind.u64.wrap (IntKind.u64.wrap ((x : Int) / 4294967296 * bits .and .u64 (y : Int) 4294967295) + IntKind.u64.wrap (bits .and .u64 (x : Int) 4294967295 * bits .and .u64 (y : Int) 4294967295) / 4294967296)) 4294967295 + IntKind.u64.wrap (bits .and .u64 (x : Int) 4294967295 * ((y : Int) / 4294967296))) / 4294967296)) = ((x * y / 18446744073709551616 : Nat) : Int) := by
  rw [mask32 x hx, mask32 y hy]
  have ex : ((x : Int) / 4294967296) = ((x / 4294967296 : Nat) : Int) := by omega
  have ey : ((y : Int) / 4294967296) = ((y / 4294967296 : Nat) : Int) := by omega
  rw [ex, ey]
  have hxy : x * y = x / 4294967296 * (y / 4294967296) * 18446744073709551616 + (x / 4294967296 * (y % 4294967296) + x % 4294967296 * (y / 4294967296)) * 4294967296 + x % 4294967296 * (y % 4294967296) := by
    conv => lhs; rw [show x = x / 4294967296 * 4294967296 + x % 4294967296 by omega, show y = y / 4294967296 * 4294967296 + y % 4294967296 by omega]
    grind
  have b1 : x / 4294967296 < 4294967296 := by omega
  have b2 : y / 4294967296 < 4294967296 := by omega
  have b3 : x % 4294967296 < 4294967296 := by omega
  have b4 : y % 4294967296 < 4294967296 := by omega
  rw [hxy]
  generalize x / 4294967296 = x1 at *
  generalize y / 4294967296 = y1 at *
  generalize x % 4294967296 = x0 at *
  generalize y % 4294967296 = y0 at *
  have h1 := mul_lt32 b1 b2
  have h2 := mul_lt32 b1 b4
  have h3 := mul_lt32 b3 b2
  have h4 := mul_lt32 b3 b4
  rw [← Int.natCast_mul, ← Int.natCast_mul, ← Int.natCast_mul, ← Int.natCast_mul]
  generalize x1 * y1 = p at *
  generalize x1 * y0 = q at *
  generalize x0 * y1 = r at *
  generalize x0 * y0 = s at *
  rw [wrap_u64 p (by omega), wrap_u64 q (by omega), wrap_u64 r (by omega), wrap_u64 s (by omega)]
  have e1 : ((q : Int) + (s : Int) / 4294967296) = ((q + s / 4294967296 : Nat) : Int) := by omega
  rw [e1, wrap_u64 _ (by omega), mask32 _ (by omega)]
  have e2 : (p : Int) + ((q + s / 4294967296 : Nat) : Int) / 4294967296 = ((p + (q + s / 4294967296) / 4294967296 : Nat) : Int) := by omega
  have e3 : (((q + s / 4294967296) % 4294967296 : Nat) : Int) + (r : Int) = (((q + s / 4294967296) % 4294967296 + r : Nat) : Int) := by omega
  rw [e2, e3, wrap_u64 _ (by omega), wrap_u64 _ (by omega)]
  have e4 : ((p + (q + s / 4294967296) / 4294967296 : Nat) : Int) + (((q + s / 4294967296) % 4294967296 + r : Nat) : Int) / 4294967296 = ((p + (q + s / 4294967296) / 4294967296 + ((q + s / 4294967296) % 4294967296 + r) / 4294967296 : Nat) : Int) := by omega
  rw [e4, wrap_u64 _ (by omega)]
  congr 1
  omega
theorem mul_lo (x y : Nat) : IntKind.u64.wrap ((x : Int) * (y : Int)) = ((x * y % 18446744073709551616 : Nat) : Int) := by
  rw [← Int.natCast_mul]
  simp [IntKind.wrap, IntKind.signed, IntKind.bits]
set_option maxRecDepth 100000 in
set_option maxHeartbeats 1000000 in
theorem mul64_any (x y : Nat) (hx : x < 18446744073709551616) (hy : y < 18446744073709551616) (w : World) :
    Calls Tryd.prog 29 #[.int .u64 (x : Int), .int .u64 (y : Int)] w fun e w' => e = .returned (.tuple #[.int .u64 ((x * y / 18446744073709551616 : Nat) : Int), .int .u64 ((x * y % 18446744073709551616 : Nat) : Int)]) ∧ w = w' := by
  rw [← mul_hi x y hx hy, ← mul_lo x y]
  go_enter Tryd.func29, Tryd.ntmps29
  go_wp2_with fail
  go_ret2
  exact ⟨rfl, rfl⟩
end Go.Proofs.YtcnmpflbmnnkbaaDoor
