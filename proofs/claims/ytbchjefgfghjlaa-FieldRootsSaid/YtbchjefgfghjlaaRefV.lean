/- The document's functions of layer 4, by what number a text is. -/
import Derived.Test.YtbchjefgfghjlaaRefFm
import Derived.Test.YtbchjefgfghjlaaOps
namespace Go.Proofs.Ytbchjefgfghjlaa
open Go.RowKit
section
variable {n m : Nat} {x y : Value}
theorem radd_v (hx : isS (toS n) x) (hy : isS (toS m) y) (hn : n < PP) (hm : m < PP) (w : World) : Calls Try.prog 15 #[x, y] w (Gives w (isS (toS (addF n m)))) := by
  obtain rfl : x = .string (toS n) := hx
  obtain rfl : y = .string (toS m) := hy
  exact (refAdd_toS hn hm w).mono fun _ _ ⟨he, ht⟩ => ⟨_, he, rfl, ht⟩
theorem rsub_v (hx : isS (toS n) x) (hy : isS (toS m) y) (hn : n < PP) (hm : m < PP) (w : World) : Calls Try.prog 17 #[x, y] w (Gives w (isS (toS (subF n m)))) := by
  obtain rfl : x = .string (toS n) := hx
  obtain rfl : y = .string (toS m) := hy
  exact (refSub_toS hn hm w).mono fun _ _ ⟨he, ht⟩ => ⟨_, he, rfl, ht⟩
theorem rmul_v (hx : isS (toS n) x) (hy : isS (toS m) y) (hn : n < PP) (hm : m < PP) (w : World) : Calls Try.prog 19 #[x, y] w (Gives w (isS (toS (mulF n m)))) := by
  obtain rfl : x = .string (toS n) := hx
  obtain rfl : y = .string (toS m) := hy
  exact (refMul_toS hn hm w).mono fun _ _ ⟨he, ht⟩ => ⟨_, he, rfl, ht⟩
theorem rneg_v (hx : isS (toS n) x) (hn : n < PP) (w : World) : Calls Try.prog 21 #[x] w (Gives w (isS (toS (negF n)))) := by
  obtain rfl : x = .string (toS n) := hx
  exact (refNeg_toS hn w).mono fun _ _ ⟨he, ht⟩ => ⟨_, he, rfl, ht⟩
theorem rinv_v (hx : isS (toS n) x) (hn : n < PP) (w : World) : Calls Try.prog 34 #[x] w (Gives w (isS (toS (invF n)))) := by
  obtain rfl : x = .string (toS n) := hx
  exact (refInv_toS hn w).mono fun _ _ ⟨he, ht⟩ => ⟨_, he, rfl, ht⟩
theorem rodd_v (hx : isS (toS n) x) (w : World) : Calls Try.prog 24 #[x] w (Gives w (isB (decide (n % 2 = 1)))) := by
  obtain rfl : x = .string (toS n) := hx
  exact (refOdd_toS n w).mono fun _ _ ⟨he, hw⟩ => ⟨_, he, rfl, hw ▸ Touch.refl _ _⟩
theorem rnum_v (k : Nat) (hk : k < 18446744073709551616) (w : World) : Calls Try.prog 26 #[.int .u64 (k : Int)] w (Gives w (isS (toS (k % PP)))) :=
  (refNum_any k hk w).mono fun _ _ ⟨he, ht⟩ => ⟨_, he, rfl, ht⟩
theorem rnum_s {k n : Nat} {x : Value} (hx : isV (.int .u64 (k : Int)) x) (hk : k < 18446744073709551616) (hn : k % PP = n) (w : World) : Calls Try.prog 26 #[x] w (Gives w (isS (toS n))) := by
  obtain rfl : x = .int .u64 (k : Int) := hx
  subst hn
  exact rnum_v k hk w
theorem refCut_c (s : ByteArray) (w : World) : Calls Try.prog 12 #[.string s] w fun e w' => e = .returned (.string (toS (cutN s))) ∧ Touch [] w w' := refCut_any s w
end
end Go.Proofs.Ytbchjefgfghjlaa
