/- 2^255 - 19 is prime. -/
namespace Go.Proofs.YtbgpgbfiadhddaaDoor
/-- Prime. -/
def Pr (p : Nat) : Prop := 2 ≤ p ∧ ∀ d, d ∣ p → d = 1 ∨ d = p
theorem Pr.cop {p : Nat} (h : Pr p) {x : Nat} (hx : ¬ p ∣ x) : Nat.Coprime x p := by
  rcases h.2 _ (Nat.gcd_dvd_right x p) with h1 | h1
  · exact h1
  · exact absurd (h1 ▸ Nat.gcd_dvd_left x p) hx
theorem Pr.euclid {p a b : Nat} (h : Pr p) (hd : p ∣ a * b) : p ∣ a ∨ p ∣ b := by
  by_cases ha : p ∣ a
  · exact .inl ha
  · exact .inr (Nat.Coprime.dvd_of_dvd_mul_left (Nat.Coprime.symm (h.cop ha)) hd)
theorem exists_prime {n : Nat} (h : 2 ≤ n) : ∃ r, Pr r ∧ r ∣ n := by
  induction n using Nat.strongRecOn with
  | _ n ih =>
    by_cases hp : Pr n
    · exact ⟨n, hp, Nat.dvd_refl n⟩
    · have : ∃ d, d ∣ n ∧ d ≠ 1 ∧ d ≠ n := by
        apply Classical.byContradiction
        intro hn
        apply hp
        refine ⟨h, fun d hd => ?_⟩
        apply Classical.byContradiction
        intro hc
        exact hn ⟨d, hd, fun e => hc (.inl e), fun e => hc (.inr e)⟩
      obtain ⟨d, hd, h1, h2⟩ := this
      have hle := Nat.le_of_dvd (by omega) hd
      have h0 : d ≠ 0 := by rintro rfl; have := Nat.eq_zero_of_zero_dvd hd; omega
      obtain ⟨r, hr, hrd⟩ := ih d (by omega) (by omega)
      exact ⟨r, hr, Nat.dvd_trans hrd hd⟩
def chs : Nat → Nat → Nat
  | _, 0 => 1
  | 0, _ + 1 => 0
  | n + 1, k + 1 => chs n k + chs n (k + 1)
theorem chs_0 (n : Nat) : chs n 0 = 1 := by cases n <;> rfl
theorem chs_gt (n : Nat) : ∀ k, n < k → chs n k = 0 := by
  induction n with
  | zero => intro k hk; cases k with | zero => omega | succ k => rfl
  | succ n ih => intro k hk; cases k with
    | zero => omega
    | succ k => rw [chs, ih k (by omega), ih (k + 1) (by omega)]
theorem chs_self (n : Nat) : chs n n = 1 := by
  induction n with
  | zero => rfl
  | succ n ih => rw [chs, ih, chs_gt n (n + 1) (by omega)]
theorem chs_mul (n : Nat) : ∀ k, (k + 1) * chs (n + 1) (k + 1) = (n + 1) * chs n k := by
  induction n with
  | zero =>
    intro k
    cases k with
    | zero => rfl
    | succ k => rw [chs_gt 0 (k + 1) (by omega), chs_gt (0 + 1) (k + 1 + 1) (by omega)]; simp
  | succ n ih =>
    intro k
    cases k with
    | zero =>
      have := ih 0
      have h4 : chs (n + 1 + 1) (0 + 1) = chs (n + 1) 0 + chs (n + 1) (0 + 1) := rfl
      rw [h4, chs_0]
      rw [chs_0] at this
      omega
    | succ k =>
      have h1 := ih k
      have h2 := ih (k + 1)
      have h3 : chs (n + 1) (k + 1) = chs n k + chs n (k + 1) := rfl
      have h4 : chs (n + 1 + 1) (k + 1 + 1) = chs (n + 1) (k + 1) + chs (n + 1) (k + 1 + 1) := rfl
      rw [h4, Nat.mul_add, h2]
      have h5 : (k + 1 + 1) * chs (n + 1) (k + 1) = (n + 1) * chs n k + chs (n + 1) (k + 1) := by rw [← h1]; grind
      rw [h5]
      have h6 : (n + 1) * chs (n + 1) (k + 1) = (n + 1) * chs n k + (n + 1) * chs n (k + 1) := by rw [h3, Nat.mul_add]
      grind
def sm (f : Nat → Nat) : Nat → Nat
  | 0 => 0
  | m + 1 => sm f m + f m
theorem binom_step (n a : Nat) : ∀ m, sm (fun k => chs (n + 1) k * a ^ k) (m + 1) = sm (fun k => chs n k * a ^ k) (m + 1) + a * sm (fun k => chs n k * a ^ k) m := by
  intro m
  induction m with
  | zero => simp [sm, chs_0]
  | succ m ih =>
    rw [sm, ih, sm, sm, sm]
    have h4 : chs (n + 1) (m + 1) = chs n m + chs n (m + 1) := rfl
    rw [h4, Nat.pow_succ]
    grind
theorem binom (n a : Nat) : (a + 1) ^ n = sm (fun k => chs n k * a ^ k) (n + 1) := by
  induction n with
  | zero => simp [sm, chs]
  | succ n ih =>
    rw [binom_step, sm, chs_gt n (n + 1) (by omega), ← ih, Nat.pow_succ]
    grind
theorem Pr.chs {p : Nat} (h : Pr p) {k : Nat} (h0 : 0 < k) (hk : k < p) : p ∣ chs p k := by
  obtain ⟨n, rfl⟩ : ∃ n, p = n + 1 := ⟨p - 1, by have := h.1; omega⟩
  obtain ⟨j, rfl⟩ : ∃ j, k = j + 1 := ⟨k - 1, by omega⟩
  have h1 : (n + 1) ∣ (j + 1) * Go.Proofs.YtbgpgbfiadhddaaDoor.chs (n + 1) (j + 1) := ⟨Go.Proofs.YtbgpgbfiadhddaaDoor.chs n j, chs_mul n j⟩
  rcases h.euclid h1 with h2 | h2
  · have := Nat.le_of_dvd (by omega) h2; omega
  · exact h2
theorem Pr.frob {p : Nat} (h : Pr p) (a : Nat) : (a + 1) ^ p % p = (a ^ p + 1) % p := by
  have h2 := h.1
  have mid : ∀ m, m < p → sm (fun k => Go.Proofs.YtbgpgbfiadhddaaDoor.chs p k * a ^ k) (m + 1) % p = 1 % p := by
    intro m
    induction m with
    | zero => intro _; simp [sm, chs_0]
    | succ m ih =>
      intro hm
      obtain ⟨c, hc⟩ := h.chs (k := m + 1) (by omega) hm
      rw [sm, hc, Nat.mul_assoc, Nat.add_mul_mod_self_left]
      exact ih (by omega)
  rw [binom, sm, chs_self, Nat.one_mul, Nat.add_mod]
  have := mid (p - 1) (by omega)
  rw [show p - 1 + 1 = p by omega] at this
  rw [this, ← Nat.add_mod, Nat.add_comm]
theorem Pr.fermat {p : Nat} (h : Pr p) (a : Nat) : a ^ p % p = a % p := by
  have h2 := h.1
  induction a with
  | zero => rw [Nat.zero_pow (by omega)]
  | succ a ih => rw [h.frob, Nat.add_mod, ih, ← Nat.add_mod]
theorem Pr.fermat1 {p : Nat} (h : Pr p) {a : Nat} (ha : ¬ p ∣ a) : a ^ (p - 1) % p = 1 := by
  have h2 := h.1
  have h3 := h.fermat a
  have hpos : 0 < a := Nat.pos_of_ne_zero (fun e => ha (e ▸ Nat.dvd_zero p))
  have h1 : 1 ≤ a ^ (p - 1) := Nat.pow_pos hpos
  have h4 : p ∣ a * (a ^ (p - 1) - 1) := by
    rw [Nat.mul_sub, Nat.mul_one, Nat.mul_comm, ← Nat.pow_succ, show (p - 1).succ = p by omega]
    have h5 : a ≤ a ^ p := by
      have := Nat.pow_le_pow_right hpos (show 1 ≤ p by omega)
      rwa [Nat.pow_one] at this
    exact (Nat.dvd_iff_mod_eq_zero).2 (Nat.sub_mod_eq_zero_of_mod_eq h3)
  rcases h.euclid h4 with h5 | h5
  · exact absurd h5 ha
  · obtain ⟨c, hc⟩ := h5
    rw [show a ^ (p - 1) = 1 + p * c by omega, Nat.add_mul_mod_self_left, Nat.mod_eq_of_lt (by omega)]
def pm (m : Nat) : Nat → Nat → Nat → Nat
  | 0, _, _ => 1 % m
  | f + 1, b, e => if e % 2 = 1 then pm m f (b * b % m) (e / 2) * b % m else pm m f (b * b % m) (e / 2)
theorem pm_eq (m : Nat) : ∀ f b e, e < 2 ^ f → pm m f b e = b ^ e % m := by
  intro f
  induction f with
  | zero => intro b e h; obtain rfl : e = 0 := by simpa using h
            rfl
  | succ f ih =>
    intro b e h
    have hh := ih (b * b % m) (e / 2) (by rw [Nat.pow_succ] at h; omega)
    rw [← Nat.pow_mod, ← Nat.pow_two, ← Nat.pow_mul] at hh
    rw [pm, Nat.pow_two] at *
    rw [hh]
    by_cases h1 : e % 2 = 1
    · rw [if_pos h1, Nat.mod_mul_mod, ← Nat.pow_succ, show (2 * (e / 2)).succ = e by omega]
    · rw [if_neg h1, show 2 * (e / 2) = e by omega]
theorem mod_of_dvd {a b r N : Nat} (hr : r ∣ N) (h : a % N = b % N) : a % r = b % r := by
  have := congrArg (· % r) h
  simpa [Nat.mod_mod_of_dvd _ hr] using this
theorem pow_one_mod {b k r : Nat} (h : b % r = 1 % r) : b ^ k % r = 1 % r := by
  rw [Nat.pow_mod, h, ← Nat.pow_mod, Nat.one_pow]
/-- q is a factor of r - 1 for each prime r of N. -/
theorem pock_div {N q m c : Nat} (f : Nat) (hq : Pr q) (hm : q * m = N - 1) (hN : 2 ≤ N) (hf : N - 1 < 2 ^ f) (h1 : pm N f c (N - 1) = 1) (hg : Nat.gcd (pm N f c m + N - 1) N = 1) :
    ∀ r, Pr r → r ∣ N → q ∣ r - 1 := by
  intro r hr hrN
  have hr2 := hr.1
  have hq2 := hq.1
  have hm1 : m ≤ N - 1 := by rw [← hm]; exact Nat.le_mul_of_pos_left m (by omega)
  rw [pm_eq N f c _ hf] at h1
  rw [pm_eq N f c m (by omega)] at hg
  apply Classical.byContradiction
  intro hnd
  have hcr : ¬ r ∣ c := by
    rintro ⟨t, rfl⟩
    have h2 : (r * t) ^ (N - 1) % r = 1 % r := mod_of_dvd hrN (by rw [h1, Nat.mod_eq_of_lt (by omega)])
    rw [Nat.mul_pow, show N - 1 = (N - 2) + 1 by omega, Nat.pow_succ r, Nat.mul_comm (r ^ (N - 2)) r, Nat.mul_assoc, Nat.mul_mod_right, Nat.mod_eq_of_lt (by omega)] at h2
    omega
  have hb : ¬ r ∣ c ^ m := by
    intro hd
    have : ∀ k, r ∣ c ^ k → r ∣ c := by
      intro k
      induction k with
      | zero => intro h; rw [Nat.pow_zero] at h; have := Nat.le_of_dvd (by omega) h; omega
      | succ k ih => intro h; rw [Nat.pow_succ] at h; exact (hr.euclid h).elim ih id
    exact hcr (this m hd)
  have e1 : (c ^ m) ^ q % r = 1 % r := by
    rw [← Nat.pow_mul, Nat.mul_comm, hm]
    exact mod_of_dvd hrN (by rw [h1, Nat.mod_eq_of_lt (by omega)])
  have e2 : (c ^ m) ^ (r - 1) % r = 1 % r := by rw [hr.fermat1 hb, Nat.mod_eq_of_lt (by omega)]
  -- gcd q (r-1) = 1
  have hcop : Nat.Coprime (r - 1) q := hq.cop hnd
  have e3 : (c ^ m) % r = 1 % r := by
    have key : ∀ n x y, x + y ≤ n → (c ^ m) ^ x % r = 1 % r → (c ^ m) ^ y % r = 1 % r → (c ^ m) ^ (Nat.gcd x y) % r = 1 % r := by
      intro n
      induction n with
      | zero =>
        intro x y h hx _
        have h0 : x + y ≤ 0 := h
        obtain rfl : x = 0 := by omega
        obtain rfl : y = 0 := by omega
        exact hx
      | succ n ih =>
        intro x y h hx hy
        by_cases h0 : x = 0
        · subst h0; rw [Nat.gcd_zero_left]; exact hy
        · by_cases h0' : y = 0
          · subst h0'; rw [Nat.gcd_zero_right]; exact hx
          · by_cases hxy : x ≤ y
            · have : (c ^ m) ^ (y - x) % r = 1 % r := by
                have e : (c ^ m) ^ y = (c ^ m) ^ (y - x) * (c ^ m) ^ x := by rw [← Nat.pow_add]; congr 1; omega
                rw [e, Nat.mul_mod, hx, ← Nat.mul_mod, Nat.mul_one] at hy
                exact hy
              have := ih x (y - x) (by omega) hx this
              rwa [Nat.gcd_sub_self_right hxy] at this
            · have : (c ^ m) ^ (x - y) % r = 1 % r := by
                have e : (c ^ m) ^ x = (c ^ m) ^ (x - y) * (c ^ m) ^ y := by rw [← Nat.pow_add]; congr 1; omega
                rw [e, Nat.mul_mod, hy, ← Nat.mul_mod, Nat.mul_one] at hx
                exact hx
              have := ih (x - y) y (by omega) this hy
              rwa [Nat.gcd_sub_self_left (by omega)] at this
    have := key _ _ _ (Nat.le_refl _) e2 e1
    rwa [show Nat.gcd (r - 1) q = 1 from hcop, Nat.pow_one] at this
  have hd : r ∣ c ^ m % N + N - 1 := by
    have h5 : (c ^ m % N) % r = 1 := by rw [Nat.mod_mod_of_dvd _ hrN, e3, Nat.mod_eq_of_lt (by omega)]
    obtain ⟨t, ht⟩ := hrN
    have h6 := Nat.div_add_mod (c ^ m % N) r
    rw [h5] at h6
    refine ⟨c ^ m % N / r + t, ?_⟩
    rw [Nat.mul_add, ← ht]
    omega
  have := Nat.dvd_gcd hd hrN
  rw [hg] at this
  have := Nat.le_of_dvd (by omega) this
  omega
theorem pr_pock {N a b : Nat} (ha : Pr a) (hb : Pr b) (hab : Nat.gcd a b = 1) (h1 : ∀ r, Pr r → r ∣ N → a ∣ r - 1) (h2 : ∀ r, Pr r → r ∣ N → b ∣ r - 1) (hN : 2 ≤ N) (hF : N < (a * b + 1) * (a * b + 1)) : Pr N := by
  have _ := ha
  have _ := hb
  refine ⟨hN, fun d hd => ?_⟩
  apply Classical.byContradiction
  intro hc
  obtain ⟨e, he⟩ := hd
  have hd0 : d ≠ 0 := by rintro rfl; omega
  have he0 : e ≠ 0 := by rintro rfl; omega
  have hd1 : d ≠ 1 := fun h => hc (.inl h)
  have he1 : e ≠ 1 := fun h => hc (.inr (by rw [h] at he; omega))
  have small : ∃ s, 2 ≤ s ∧ s ∣ N ∧ s * s ≤ N := by
    by_cases hde : d ≤ e
    · exact ⟨d, by omega, ⟨e, he⟩, by rw [he]; exact Nat.mul_le_mul_left d hde⟩
    · exact ⟨e, by omega, ⟨d, by rw [he, Nat.mul_comm]⟩, by rw [he]; exact Nat.mul_le_mul_right e (by omega)⟩
  obtain ⟨s, hs2, hsN, hss⟩ := small
  obtain ⟨r, hr, hrs⟩ := exists_prime hs2
  have hrN := Nat.dvd_trans hrs hsN
  have hr2 := hr.1
  have hdv : a * b ∣ r - 1 := Nat.Coprime.mul_dvd_of_dvd_of_dvd hab (h1 r hr hrN) (h2 r hr hrN)
  have h3 := Nat.le_of_dvd (by omega) hdv
  have h4 := Nat.le_of_dvd (by omega) hrs
  have h5 : (a * b + 1) * (a * b + 1) ≤ s * s := Nat.mul_le_mul (by omega) (by omega)
  omega
def noDiv (n : Nat) : Nat → Nat → Bool
  | 0, _ => true
  | f + 1, d => n % d != 0 && noDiv n f (d + 1)
theorem noDiv_at {n f d : Nat} (h : noDiv n f d = true) : ∀ k, d ≤ k → k < d + f → n % k ≠ 0 := by
  induction f generalizing d with
  | zero => intro k _ _; omega
  | succ f ih =>
    intro k h1 h2
    rw [noDiv, Bool.and_eq_true] at h
    by_cases hk : k = d
    · subst hk; simpa using h.1
    · exact ih h.2 k (by omega) (by omega)
theorem pr_trial {n : Nat} (hn : 2 ≤ n) (f : Nat) (hf : n < (f + 2) * (f + 2)) (h : noDiv n f 2 = true) : Pr n := by
  refine ⟨hn, fun d hd => ?_⟩
  apply Classical.byContradiction
  intro hc
  obtain ⟨e, he⟩ := hd
  have hd0 : d ≠ 0 := by rintro rfl; omega
  have he0 : e ≠ 0 := by rintro rfl; omega
  have hd1 : d ≠ 1 := fun h => hc (.inl h)
  have he1 : e ≠ 1 := fun h => hc (.inr (by rw [h] at he; omega))
  have small : ∃ s, 2 ≤ s ∧ s ∣ n ∧ s * s ≤ n := by
    by_cases hde : d ≤ e
    · exact ⟨d, by omega, ⟨e, he⟩, by rw [he]; exact Nat.mul_le_mul_left d hde⟩
    · exact ⟨e, by omega, ⟨d, by rw [he, Nat.mul_comm]⟩, by rw [he]; exact Nat.mul_le_mul_right e (by omega)⟩
  obtain ⟨s, hs2, hsN, hss⟩ := small
  have hs : s < f + 2 := by
    rcases Nat.lt_or_ge s (f + 2) with h | h
    · exact h
    · have := Nat.mul_le_mul h h; omega
  have := noDiv_at h s hs2 (by omega)
  exact this (Nat.mod_eq_zero_of_dvd hsN)
theorem pr8574133 : Pr 8574133 := pr_trial (by omega) 2927 (by decide) (by decide +kernel)
theorem pr7 : Pr 7 := pr_trial (by omega) 1 (by decide) (by decide +kernel)
theorem pr_2 : Pr 1919519569386763 := pr_pock (N := 1919519569386763) (a := 8574133) (b := 7) pr8574133 pr7 (by decide) (pock_div (q := 8574133) (m := 223873314) (c := 2) 51 pr8574133 (by decide) (by decide) (by decide) (by decide +kernel) (by decide +kernel)) (pock_div (q := 7) (m := 274217081340966) (c := 2) 51 pr7 (by decide) (by decide) (by decide) (by decide +kernel) (by decide +kernel)) (by decide) (by decide)
theorem pr75707 : Pr 75707 := pr_trial (by omega) 274 (by decide) (by decide +kernel)
theorem pr_4 : Pr 75445702479781427272750846543864801 := pr_pock (N := 75445702479781427272750846543864801) (a := 1919519569386763) (b := 75707) pr_2 pr75707 (by decide) (pock_div (q := 1919519569386763) (m := 39304471641247389600) (c := 2) 116 pr_2 (by decide) (by decide) (by decide) (by decide +kernel) (by decide +kernel)) (pock_div (q := 75707) (m := 996548568557483816196003626400) (c := 2) 116 pr75707 (by decide) (by decide) (by decide) (by decide +kernel) (by decide +kernel)) (by decide) (by decide)
theorem pr353 : Pr 353 := pr_trial (by omega) 17 (by decide) (by decide +kernel)
theorem pr_6 : Pr 74058212732561358302231226437062788676166966415465897661863160754340907 := pr_pock (N := 74058212732561358302231226437062788676166966415465897661863160754340907) (a := 75445702479781427272750846543864801) (b := 353) pr_4 pr353 (by decide) (pock_div (q := 75445702479781427272750846543864801) (m := 981609426360740691344999861639072106) (c := 2) 236 pr_4 (by decide) (by decide) (by decide) (by decide +kernel) (by decide +kernel)) (pock_div (q := 353) (m := 209796636636151156663544550813209033076960244803019540118592523383402) (c := 2) 236 pr353 (by decide) (by decide) (by decide) (by decide +kernel) (by decide +kernel)) (by decide) (by decide)
theorem pr2 : Pr 2 := pr_trial (by omega) 0 (by decide) (by decide +kernel)
theorem pr_8 : Pr 57896044618658097711785492504343953926634992332820282019728792003956564819949 := pr_pock (N := 57896044618658097711785492504343953926634992332820282019728792003956564819949) (a := 74058212732561358302231226437062788676166966415465897661863160754340907) (b := 2) pr_6 pr2 (by decide) (pock_div (q := 74058212732561358302231226437062788676166966415465897661863160754340907) (m := 781764) (c := 2) 255 pr_6 (by decide) (by decide) (by decide) (by decide +kernel) (by decide +kernel)) (pock_div (q := 2) (m := 28948022309329048855892746252171976963317496166410141009864396001978282409974) (c := 2) 255 pr2 (by decide) (by decide) (by decide) (by decide +kernel) (by decide +kernel)) (by decide) (by decide)
theorem pr_P : Pr 57896044618658097711785492504343953926634992332820282019728792003956564819949 := pr_8
end Go.Proofs.YtbgpgbfiadhddaaDoor
