/- syngraphlaw05.ScalarRing and others: told contracts. -/
import Derived.Test.YtcnmpflbmnnkbaaDoorFixed05
namespace Go.Proofs.YtcnmpflbmnnkbaaDoor
open Go.RowKit
theorem ell_lt : ell < 115792089237316195423570985008687907853269984665640564039457584007913129639936 := by decide
theorem num_toS {n : Nat} (h : n < ell) : numS (toS n) = n := by
  unfold numS
  rw [List.take_of_length_le (by rw [bl_len, toS_size]; omega), leN_toS, Nat.mod_eq_of_lt (Nat.lt_trans h ell_lt)]
theorem low_toS {n : Nat} (h : n < ell) : lowS (toS n) = n := by
  unfold lowS
  rw [List.take_of_length_le (by rw [bl_len, toS_size]; omega), leN_toS, Nat.mod_eq_of_lt (Nat.lt_trans h ell_lt)]
theorem mod_ell (n : Nat) : n % ell < ell := Nat.mod_lt _ (by decide)
theorem right_toS {n : Nat} (h : n < ell) : rightB (toS n) = true := decide_eq_true ⟨toS_size n, by rw [num_toS h, Nat.mod_eq_of_lt h]⟩
theorem zeroS_eq : (⟨#[0, 0, 0, 0, 0, 0, 0, 0, 0, 0, 0, 0, 0, 0, 0, 0, 0, 0, 0, 0, 0, 0, 0, 0, 0, 0, 0, 0, 0, 0, 0, 0]⟩ : ByteArray) = toS 0 := by decide +kernel
/-- MulAdd, of numbers told as texts. -/
def MaL (a b c : ByteArray) (n : Nat) : Prop := ∀ W : World, Ord W → Calls Tryd.prog 13 #[.string a, .string b, .string c] W fun e W' => e = .returned (.string (toS n)) ∧ Touch [] W W'
theorem maL (a b c : ByteArray) (x y z n : Nat) (hx : lowS a = x) (hy : lowS b = y) (hz : lowS c = z) (hn : (x * y + z) % ell = n) : MaL a b c n := fun W hW => by
  have h := mulAdd_any a b c W hW
  unfold MulAddPost at h
  rw [show leN ((bl a).take 32) = x from hx, show leN ((bl b).take 32) = y from hy, show leN ((bl c).take 32) = z from hz, hn] at h
  exact h
/-- Cut, Right, Neg so. -/
def CuL (a : ByteArray) (n : Nat) : Prop := ∀ W : World, Ord W → Calls Tryd.prog 11 #[.string a] W fun e W' => e = .returned (.string (toS n)) ∧ Touch [] W W'
theorem cuL (a : ByteArray) (n : Nat) (h : numS a % ell = n) : CuL a n := fun W hW => h ▸ cutS_any a W hW
def RiL (a : ByteArray) (b : Bool) : Prop := ∀ W : World, Ord W → Calls Tryd.prog 9 #[.string a] W fun e W' => e = .returned (.bool b) ∧ Touch [] W W'
theorem riL (a : ByteArray) (b : Bool) (h : rightB a = b) : RiL a b := fun W hW => h ▸ right_any a W hW
def NeL (a : ByteArray) (n : Nat) : Prop := ∀ W : World, Ord W → Calls Tryd.prog 15 #[.string a] W fun e W' => e = .returned (.string (toS n)) ∧ Touch [] W W'
theorem neL (a : ByteArray) (n : Nat) (h : negN (numS a) = n) : NeL a n := fun W hW => h ▸ neg_any a W hW
theorem low_one : lowS ⟨#[1]⟩ = 1 := by decide +kernel
theorem low_none : lowS ⟨#[]⟩ = 0 := by decide +kernel
theorem ring_assoc (x y z : Nat) : ((x * 1 + y) % ell * z + 0) % ell = (x * z + (y * z + 0) % ell) % ell := by
  rw [Nat.mul_one, Nat.add_zero, Nat.add_zero, Nat.mod_mul_mod, Nat.add_mod_mod, Nat.add_mul]
theorem neg_sum {x : Nat} (hx : x < ell) : (x * 1 + negN x) % ell = 0 := by
  unfold negN
  rw [Nat.mul_one, Nat.mod_eq_of_lt hx, Nat.add_mod_mod, show x + (ell - x) = ell by omega, Nat.mod_self]
theorem neg_neg {x : Nat} (hx : x < ell) : negN (negN x) = x := by
  unfold negN
  rw [Nat.mod_mod, Nat.mod_eq_of_lt hx]
  by_cases h0 : x = 0
  · subst h0; rw [Nat.sub_zero, Nat.mod_self, Nat.sub_zero, Nat.mod_self]
  · rw [Nat.mod_eq_of_lt (show ell - x < ell by omega), show ell - (ell - x) = x by omega, Nat.mod_eq_of_lt hx]
theorem negN_lt (n : Nat) : negN n < ell := mod_ell _
end Go.Proofs.YtcnmpflbmnnkbaaDoor
