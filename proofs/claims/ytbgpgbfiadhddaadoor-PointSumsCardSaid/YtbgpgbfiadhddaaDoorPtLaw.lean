/- The curve's points: sums, and that they are a group. -/
import Derived.Test.YtbgpgbfiadhddaaDoorFField
import Derived.Test.YtbgpgbfiadhddaaDoorPtGrp
namespace Go.Proofs.YtbgpgbfiadhddaaDoor
def DN : Nat := 37095705934669439343138083508754565189542113879843219016388785533085940283555
def dF : FF := ff DN
theorem DN_lt : DN < PP := by decide
theorem ff_lit1 : ff 1 = (1 : FF) := ff_one
def iF (x : FF) : FF := ff (invF x.val)
theorem mul_iF {x : FF} (h : x ≠ 0) : x * iF x = 1 := by
  have h0 : x.val ≠ 0 := fun e => h (Fin.ext (by rw [e]; simp))
  have h1 := mulF_invF x.isLt h0
  have h2 := congrArg ff h1
  rw [ff_mul, ff_one, ff_val] at h2
  exact h2
theorem ff_invF {n : Nat} (hn : n < PP) : ff (invF n) = iF (ff n) := by
  unfold iF
  have : (ff n).val = n := Nat.mod_eq_of_lt hn
  rw [this]
/-! ### What the curve's number d is -/
theorem eul_gen (e a y : Nat) (he : 2 * e + 1 = PP) (hy : y < PP) (h : mulF y y = a) (h0 : a ≠ 0) : a ^ e % PP = 1 := by
  have hy0 : y ≠ 0 := fun h1 => h0 (by rw [← h, h1, mulF_zero])
  have h2 : a ^ e % PP = (y * y) ^ e % PP := by
    rw [← h]
    unfold mulF
    rw [← Nat.pow_mod]
  rw [h2, Nat.mul_pow, ← Nat.pow_add, show e + e = PP - 1 by omega]
  exact pr_PP.fermat1 (not_dvd hy hy0)
theorem d_eul : DN ^ 28948022309329048855892746252171976963317496166410141009864396001978282409974 % PP ≠ 1 := by
  rw [← pm_eq PP 255 DN 28948022309329048855892746252171976963317496166410141009864396001978282409974 (by decide)]
  decide +kernel
theorem d_nosq (x : FF) : x * x ≠ dF := fun h => by
  have h1 : mulF x.val x.val = DN := ff_inj (mulF_lt _ _) DN_lt (by rw [ff_mul, ff_val]; exact h)
  have h2 := d_eul
  have hk : 2 * 28948022309329048855892746252171976963317496166410141009864396001978282409974 + 1 = PP := by decide
  generalize 28948022309329048855892746252171976963317496166410141009864396001978282409974 = k at h2 hk
  exact h2 (eul_gen k DN x.val hk x.isLt h1 (by decide))
theorem two_ne : (2 : FF) ≠ 0 := by decide
theorem one_ne : (1 : FF) ≠ 0 := by decide
def dI : FF := ff IU
theorem ed : Ed dF dI iF := ⟨fun _ _ h => ff_dom h, fun _ h => mul_iF h, by
  have := ff_iu
  unfold dI
  generalize ff IU = u at *
  grind, d_nosq, two_ne, one_ne⟩
abbrev Pt : Type := PtG PP dF
abbrev Cv (x y : FF) : Prop := CvG dF x y
def padd (p q : Pt) : Pt := paddG ed p q
def pzero : Pt := pzeroG dF
def pneg (p : Pt) : Pt := pnegG p
def pmul (n : Nat) (p : Pt) : Pt := pmulG ed n p
end Go.Proofs.YtbgpgbfiadhddaaDoor
