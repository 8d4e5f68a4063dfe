/- Sums and products modulo p. -/
import Derived.Test.YtbgpgbfiadhddaaDoorElem
namespace Go.Proofs.YtbgpgbfiadhddaaDoor
theorem PP_pos : 0 < PP := by decide
theorem cutN_lt (s : ByteArray) : cutN s < PP := Nat.mod_lt _ PP_pos
theorem addF_lt (x y : Nat) : addF x y < PP := Nat.mod_lt _ PP_pos
theorem mulF_lt (x y : Nat) : mulF x y < PP := Nat.mod_lt _ PP_pos
theorem negF_lt (x : Nat) : negF x < PP := Nat.mod_lt _ PP_pos
theorem addF_comm (x y : Nat) : addF x y = addF y x := by unfold addF; rw [Nat.add_comm]
theorem mulF_comm (x y : Nat) : mulF x y = mulF y x := by unfold mulF; rw [Nat.mul_comm]
theorem addF_assoc (x y z : Nat) : addF (addF x y) z = addF x (addF y z) := by unfold addF; rw [Nat.mod_add_mod, Nat.add_mod_mod, Nat.add_assoc]
theorem mulF_mod_left (x y : Nat) : mulF (x % PP) y = mulF x y := by unfold mulF; rw [Nat.mul_mod, Nat.mod_mod, ← Nat.mul_mod]
theorem mulF_mod_right (x y : Nat) : mulF x (y % PP) = mulF x y := by rw [mulF_comm, mulF_mod_left, mulF_comm]
theorem mulF_assoc (x y z : Nat) : mulF (mulF x y) z = mulF x (mulF y z) := by
  have h1 : mulF (mulF x y) z = mulF (x * y) z := mulF_mod_left ..
  have h2 : mulF x (mulF y z) = mulF x (y * z) := mulF_mod_right ..
  rw [h1, h2]; unfold mulF; rw [Nat.mul_assoc]
theorem mulF_add (x y z : Nat) : mulF (addF x y) z = addF (mulF x z) (mulF y z) := by
  have h1 : mulF (addF x y) z = mulF (x + y) z := mulF_mod_left ..
  rw [h1]; unfold mulF addF; rw [Nat.add_mul, ← Nat.add_mod]
theorem subF_addF {x y : Nat} (hx : x < PP) (hy : y < PP) : addF (subF x y) y = x := by unfold subF addF negF PP at *; omega
theorem mulF_one {x : Nat} (hx : x < PP) : mulF x 1 = x := by unfold mulF; rw [Nat.mul_one, Nat.mod_eq_of_lt hx]
theorem addF_zero {x : Nat} (hx : x < PP) : addF x 0 = x := by unfold addF; rw [Nat.add_zero, Nat.mod_eq_of_lt hx]
theorem subF_self {x : Nat} (hx : x < PP) : subF x x = 0 := by unfold subF addF negF PP at *; omega
theorem negF_negF {x : Nat} (hx : x < PP) : negF (negF x) = x := by unfold negF PP at *; omega
theorem mulF_zero (x : Nat) : mulF x 0 = 0 := by unfold mulF; rw [Nat.mul_zero, Nat.zero_mod]
theorem addF_negF {x : Nat} (hx : x < PP) : addF x (negF x) = 0 := by unfold addF negF PP at *; omega
end Go.Proofs.YtbgpgbfiadhddaaDoor
