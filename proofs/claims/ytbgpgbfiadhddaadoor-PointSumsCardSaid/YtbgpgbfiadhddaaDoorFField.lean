/- The numbers modulo p as a field: what the laws of the inverse and of the root need. -/
import Derived.Test.YtbgpgbfiadhddaaDoorFLaws
import Derived.Test.YtbgpgbfiadhddaaDoorPrime
namespace Go.Proofs.YtbgpgbfiadhddaaDoor
theorem pr_PP : Pr PP := pr_P
theorem PP_odd : PP % 2 = 1 := by decide
instance : NeZero PP := ⟨by decide⟩
abbrev FF := Fin PP
def ff (n : Nat) : FF := ⟨n % PP, Nat.mod_lt _ PP_pos⟩
theorem ff_inj {a b : Nat} (ha : a < PP) (hb : b < PP) (h : ff a = ff b) : a = b := by
  have := congrArg Fin.val h
  simp only [ff] at this
  rwa [Nat.mod_eq_of_lt ha, Nat.mod_eq_of_lt hb] at this
theorem ff_mul (a b : Nat) : ff (mulF a b) = ff a * ff b := by
  apply Fin.ext
  simp only [ff, mulF, Fin.val_mul]
  rw [Nat.mod_mod, Nat.mul_mod]
theorem ff_add (a b : Nat) : ff (addF a b) = ff a + ff b := by
  apply Fin.ext
  simp only [ff, addF, Fin.val_add]
  rw [Nat.mod_mod, Nat.add_mod]
theorem ff_zero : ff 0 = 0 := by
  apply Fin.ext
  simp [ff]
theorem ff_one : ff 1 = 1 := by decide
theorem ff_neg {a : Nat} (ha : a < PP) : ff (negF a) = - ff a := by
  have h : ff a + ff (negF a) = 0 := by rw [← ff_add, addF_negF ha, ff_zero]
  grind
theorem ff_sub {a b : Nat} (hb : b < PP) : ff (subF a b) = ff a - ff b := by
  unfold subF
  rw [ff_add, ff_neg hb]
  grind
theorem ff_eq_zero {a : Nat} (ha : a < PP) (h : ff a = 0) : a = 0 := ff_inj ha PP_pos (by rw [h, ff_zero])
theorem ff_val (x : FF) : ff x.val = x := by
  apply Fin.ext
  simp only [ff]
  exact Nat.mod_eq_of_lt x.isLt
theorem not_dvd {a : Nat} (ha : a < PP) (h : a ≠ 0) : ¬ PP ∣ a := fun hd => h (Nat.eq_zero_of_dvd_of_lt hd ha)
/-- No zero divisors. -/
theorem ff_dom {x y : FF} (h : x * y = 0) : x = 0 ∨ y = 0 := by
  have hv := congrArg Fin.val h
  rw [Fin.val_mul] at hv
  have h0 : (0 : FF).val = 0 := by simp
  rw [h0] at hv
  rcases pr_PP.euclid (Nat.dvd_of_mod_eq_zero hv) with hd | hd
  · left; apply Fin.ext; rw [h0]; exact Nat.eq_zero_of_dvd_of_lt hd x.isLt
  · right; apply Fin.ext; rw [h0]; exact Nat.eq_zero_of_dvd_of_lt hd y.isLt
/-! ### The inverse -/
theorem inv_gen (k : Nat) (hk : k + 2 = PP) {x : Nat} (hx : x < PP) (h0 : x ≠ 0) : mulF x (x ^ k % PP) = 1 := by
  have hf := pr_PP.fermat1 (not_dvd hx h0)
  rw [mulF_mod_right]
  unfold mulF
  rw [Nat.mul_comm, ← Nat.pow_succ, show k.succ = PP - 1 by omega]
  exact hf
theorem mulF_invF {x : Nat} (hx : x < PP) (h0 : x ≠ 0) : mulF x (invF x) = 1 := by
  rw [invF_eq]
  exact inv_gen (PP - 2) (by have : 2 ≤ PP := by decide
                             omega) hx h0
theorem invF_lt (x : Nat) : invF x < PP := by rw [invF_eq]; exact Nat.mod_lt _ PP_pos
theorem zero_pow_gen (k : Nat) (hk : 0 < k) : 0 ^ k % PP = 0 := by rw [Nat.zero_pow hk, Nat.zero_mod]
theorem invF_zero : invF 0 = 0 := by rw [invF_eq]; exact zero_pow_gen _ (by decide)
theorem mul_pow_gen (k x y : Nat) : (mulF x y) ^ k % PP = mulF (x ^ k % PP) (y ^ k % PP) := by
  rw [mulF_mod_left, mulF_mod_right]
  unfold mulF
  rw [← Nat.pow_mod, Nat.mul_pow]
theorem invF_mulF (x y : Nat) : invF (mulF x y) = mulF (invF x) (invF y) := by
  rw [invF_eq, invF_eq, invF_eq]
  exact mul_pow_gen _ x y
theorem invF_invF {x : Nat} (hx : x < PP) (h0 : x ≠ 0) : invF (invF x) = x := by
  have h1 := mulF_invF hx h0
  have hn : invF x ≠ 0 := fun e => by
    rw [e, mulF_zero] at h1
    exact absurd h1 (by decide)
  have h2 := mulF_invF (invF_lt x) hn
  refine ff_inj (invF_lt _) hx ?_
  have e1 := congrArg ff h1
  have e2 := congrArg ff h2
  rw [ff_mul, ff_one] at e1 e2
  grind
/-! ### The root -/
def IU : Nat := 19681161376707505956807079304988542015446066515923890162744021073123829784752
theorem iu_eq : 2 ^ 14474011154664524427946373126085988481658748083205070504932198000989141204987 % PP = IU := by
  rw [← pm_eq PP 255 2 14474011154664524427946373126085988481658748083205070504932198000989141204987 (by decide)]
  decide +kernel
theorem iu_sq : mulF IU IU = negF 1 := by decide +kernel
theorem ff_iu : ff IU * ff IU = -1 := by
  rw [← ff_mul, iu_sq, ff_neg (by decide), ff_one]
theorem r1_sq (e a : Nat) : mulF (mulF (a ^ e % PP) a) (mulF (a ^ e % PP) a) = mulF a (a ^ (2 * e + 1) % PP) := by
  rw [mulF_mod_left, mulF_mod_right]
  have h : mulF (a ^ e) a = (a ^ e * a) % PP := rfl
  rw [h, mulF_mod_left, mulF_mod_right]
  unfold mulF
  have e2 : a ^ (2 * e + 1) = a ^ e * a ^ e * a := by rw [Nat.pow_succ, Nat.two_mul, Nat.pow_add]
  rw [e2]
  congr 1
  generalize a ^ e = t
  grind
theorem c_sq (e : Nat) (he : 8 * e + 5 = PP) {y : Nat} (hy : y < PP) (h0 : y ≠ 0) : mulF ((mulF y y) ^ (2 * e + 1) % PP) ((mulF y y) ^ (2 * e + 1) % PP) = 1 := by
  rw [mulF_mod_left, mulF_mod_right]
  unfold mulF
  rw [Nat.mul_mod, ← Nat.pow_mod, ← Nat.mul_mod, Nat.mul_pow, ← Nat.pow_add, ← Nat.pow_add, show 2 * e + 1 + (2 * e + 1) + (2 * e + 1 + (2 * e + 1)) = PP - 1 by omega]
  exact pr_PP.fermat1 (not_dvd hy h0)
theorem r1N_lt (a : Nat) : r1N a < PP := by rw [r1N_eq]; exact mulF_lt _ _
theorem r2N_lt (a : Nat) : r2N a < PP := by
  rw [r2N_eq]
  split
  · exact r1N_lt a
  · exact mulF_lt _ _
theorem isN_sq {a : Nat} (h : isN a = true) : mulF (r2N a) (r2N a) = a := by
  rw [isN_eq] at h
  exact of_decide_eq_true h
theorem sq_gen (e : Nat) (he : 8 * e + 5 = PP) {a y r iu : Nat} (hy : y < PP) (h : mulF y y = a) (hr1 : r = mulF (a ^ e % PP) a) (hne : mulF r r ≠ a) (hi : ff iu * ff iu = -1) : mulF (mulF r iu) (mulF r iu) = a := by
  have ha : a < PP := h ▸ mulF_lt _ _
  by_cases h0 : y = 0
  · exfalso
    apply hne
    rw [h0, mulF_zero] at h
    subst h
    rw [mulF_zero] at hr1
    rw [hr1]
    exact mulF_zero _
  · have hc := c_sq e he hy h0
    have hr := r1_sq e a
    rw [← hr1] at hr
    rw [h] at hc
    obtain ⟨c, hcd⟩ : ∃ c, c = a ^ (2 * e + 1) % PP := ⟨_, rfl⟩
    rw [← hcd] at hc hr
    clear hcd
    have e1 := congrArg ff hc
    have e2 := congrArg ff hr
    rw [ff_mul, ff_one] at e1
    rw [ff_mul, ff_mul] at e2
    have hz : (ff c - 1) * (ff c + 1) = 0 := by grind
    refine ff_inj (mulF_lt _ _) ha ?_
    rw [ff_mul, ff_mul]
    rcases ff_dom hz with h1 | h1
    · exfalso
      apply hne
      refine ff_inj (mulF_lt _ _) ha ?_
      rw [ff_mul]
      grind
    · grind
theorem sq_isN {a y : Nat} (hy : y < PP) (h : mulF y y = a) : isN a = true := by
  rw [isN_eq]
  refine decide_eq_true ?_
  by_cases hne : mulF (r1N a) (r1N a) = a
  · have e : r2N a = r1N a := by rw [r2N_eq, if_pos hne]
    rw [e]
    exact hne
  · have e : r2N a = mulF (r1N a) IU := by rw [r2N_eq, if_neg hne, iu_eq]
    have e1 := r1N_eq a
    have hk : 8 * 7237005577332262213973186563042994240829374041602535252466099000494570602493 + 5 = PP := by decide
    generalize 7237005577332262213973186563042994240829374041602535252466099000494570602493 = k at e1 hk
    rw [e]
    exact sq_gen k hk hy h e1 hne ff_iu
theorem isN_iff {a : Nat} : isN a = true ↔ ∃ y, y < PP ∧ mulF y y = a :=
  ⟨fun h => ⟨r2N a, r2N_lt a, isN_sq h⟩, fun ⟨_, hy, h⟩ => sq_isN hy h⟩
theorem rootN_lt (a : Nat) : rootN a < PP := by
  rw [rootN_eq]
  split
  · split
    · exact negF_lt _
    · exact r2N_lt a
  · exact PP_pos
theorem root_sq {a : Nat} (h : isN a = true) : mulF (rootN a) (rootN a) = a := by
  have hs := isN_sq h
  have ha : a < PP := hs ▸ mulF_lt _ _
  rw [rootN_eq, if_pos h]
  split
  · refine ff_inj (mulF_lt _ _) ha ?_
    have e := congrArg ff hs
    rw [ff_mul] at e
    rw [ff_mul, ff_neg (r2N_lt a)]
    rw [← e]
    generalize ff (r2N a) = u
    clear hs ha h e
    grind
  · exact hs
theorem neg_even {r : Nat} (hl : r < PP) (h : r % 2 = 1) : ¬ negF r % 2 = 1 := by
  have ho := PP_odd
  unfold negF
  generalize PP = p at *
  have e : (p - r) % p = p - r := Nat.mod_eq_of_lt (by omega)
  rw [e]
  omega
theorem root_even (a : Nat) : ¬ rootN a % 2 = 1 := by
  have hl := r2N_lt a
  rw [rootN_eq]
  by_cases hi : isN a = true
  · rw [if_pos hi]
    by_cases h : r2N a % 2 = 1
    · rw [if_pos h]
      exact neg_even hl h
    · rw [if_neg h]
      exact h
  · rw [if_neg hi]
    omega
theorem root_of_sq {x : Nat} (hx : x < PP) (h : rootN (mulF x x) ≠ x) : negF (rootN (mulF x x)) = x := by
  have hs := root_sq (sq_isN hx rfl)
  have hl := rootN_lt (mulF x x)
  obtain ⟨r, hr⟩ : ∃ r, r = rootN (mulF x x) := ⟨_, rfl⟩
  rw [← hr] at hs hl h ⊢
  have e := congrArg ff hs
  rw [ff_mul, ff_mul] at e
  have hz : (ff r - ff x) * (ff r + ff x) = 0 := by grind
  refine ff_inj (negF_lt _) hx ?_
  rw [ff_neg hl]
  rcases ff_dom hz with h1 | h1
  · exact absurd (ff_inj hl hx (by grind)) h
  · grind
theorem neg_isN (x : Nat) : isN (negF (mulF x x)) = true := by
  refine sq_isN (y := mulF IU x) (mulF_lt _ _) ?_
  refine ff_inj (mulF_lt _ _) (negF_lt _) ?_
  have hi := ff_iu
  rw [ff_mul, ff_mul, ff_neg (mulF_lt _ _), ff_mul]
  generalize ff IU = u at *
  generalize ff x = v
  grind
theorem mul_isN {x y : Nat} (hx : x < PP) (hy : y < PP) (h0 : x ≠ 0) : isN (mulF y (mulF x x)) = isN y := by
  have key : isN (mulF y (mulF x x)) = true ↔ isN y = true := by
    refine ⟨fun h => ?_, fun h => ?_⟩
    · obtain ⟨z, hz, hzz⟩ := isN_iff.1 h
      refine sq_isN (y := mulF z (invF x)) (mulF_lt _ _) (ff_inj (mulF_lt _ _) hy ?_)
      have e1 := congrArg ff (mulF_invF hx h0)
      have e2 := congrArg ff hzz
      rw [ff_mul, ff_one] at e1
      rw [ff_mul, ff_mul, ff_mul] at e2
      rw [ff_mul, ff_mul]
      generalize ff (invF x) = u at *
      generalize ff x = X at *
      generalize ff y = Y at *
      generalize ff z = Z at *
      have : Z * u * (Z * u) = Y * (X * u) * (X * u) := by
        have : Z * u * (Z * u) = Z * Z * u * u := by grind
        rw [this, e2]; grind
      rw [this, e1]; grind
    · obtain ⟨z, hz, hzz⟩ := isN_iff.1 h
      refine sq_isN (y := mulF z x) (mulF_lt _ _) (ff_inj (mulF_lt _ _) (mulF_lt _ _) ?_)
      have e2 := congrArg ff hzz
      rw [ff_mul] at e2
      rw [ff_mul, ff_mul, ff_mul, ff_mul]
      rw [← e2]; grind
  exact Bool.eq_iff_iff.2 key
theorem zero_isN : isN 0 = true := sq_isN PP_pos (mulF_zero 0)
end Go.Proofs.YtbgpgbfiadhddaaDoor
