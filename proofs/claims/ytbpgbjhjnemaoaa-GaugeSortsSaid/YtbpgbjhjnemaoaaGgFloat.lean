/- Floats of 64 bits as whole numbers: how two stand, kinds, the key by which they are ordered. -/
import Derived.Laws.FloatBits
namespace Go.Proofs.Ytbpgbjhjnemaoaa
abbrev D64 : Ieee.Format := Ieee.double
def mg (b : Nat) : Nat := b % 9223372036854775808
def sg (b : Nat) : Bool := decide (9223372036854775808 ≤ b)
def isN (b : Nat) : Bool := decide (9218868437227405312 < mg b)
/-- A number's rung with its sign. -/
def sv (b : Nat) : Int := if sg b then -(mg b : Int) else (mg b : Int)
def ordI (a b : Int) : Ordering := if a < b then .lt else if a = b then .eq else .gt
theorem ordI_eq (a b : Int) : compare a b = ordI a b := rfl
theorem ordN_eq (a b : Nat) : compare a b = ordI a b := by
  show compareOfLessAndEq a b = _
  unfold compareOfLessAndEq ordI
  (repeat' split) <;> first | rfl | (exfalso; omega)
theorem ordI_mul (a b : Int) (c : Nat) (hc : 0 < c) : ordI (a * c) (b * c) = ordI a b := by
  have hc' : (0 : Int) < c := by omega
  unfold ordI
  by_cases h : a < b
  · rw [if_pos h, if_pos (Int.mul_lt_mul_of_pos_right h hc')]
  · rw [if_neg h, if_neg (fun h' => h (Int.lt_of_mul_lt_mul_right h' (Int.le_of_lt hc')))]
    by_cases h2 : a = b
    · rw [if_pos h2, if_pos (by rw [h2])]
    · rw [if_neg h2, if_neg (fun h' => h2 (Int.eq_of_mul_eq_mul_right (by omega) h'))]
/-- A rung's magnitude. -/
def mgV (r : Nat) : Nat := if r < 4503599627370496 then r else 4503599627370496 + r % 4503599627370496
def upV (r : Nat) : Nat := if r < 4503599627370496 then 0 else r / 4503599627370496 - 1
def vV (r : Nat) : Nat := mgV r * 2 ^ upV r
theorem vV_mono {r s : Nat} (h : r < s) : vV r < vV s := by
  unfold vV mgV upV
  by_cases hs : s < 4503599627370496
  · rw [if_pos hs, if_pos hs, if_pos (by omega), if_pos (by omega)]
    omega
  · rw [if_neg hs, if_neg hs]
    have hp := Nat.two_pow_pos (s / 4503599627370496 - 1)
    by_cases hr : r < 4503599627370496
    · rw [if_pos hr, if_pos hr, Nat.pow_zero, Nat.mul_one]
      refine Nat.lt_of_lt_of_le ?_ (Nat.le_mul_of_pos_right _ hp)
      omega
    · rw [if_neg hr, if_neg hr]
      obtain ⟨q, hq⟩ : ∃ q, q = r / 4503599627370496 - 1 := ⟨_, rfl⟩
      obtain ⟨p, hpp⟩ : ∃ p, p = s / 4503599627370496 - 1 := ⟨_, rfl⟩
      obtain ⟨f, hf⟩ : ∃ f, f = r % 4503599627370496 := ⟨_, rfl⟩
      obtain ⟨g, hg⟩ : ∃ g, g = s % 4503599627370496 := ⟨_, rfl⟩
      rw [← hq, ← hpp, ← hf, ← hg]
      have hfl : f < 4503599627370496 := by omega
      by_cases hqp : q = p
      · subst hqp
        exact Nat.mul_lt_mul_of_pos_right (by omega) (Nat.two_pow_pos _)
      · have hlt : q + 1 ≤ p := by omega
        have h1 : (4503599627370496 + f) * 2 ^ q < 9007199254740992 * 2 ^ q := Nat.mul_lt_mul_of_pos_right (by omega) (Nat.two_pow_pos _)
        have h2 : 2 ^ (q + 1) ≤ 2 ^ p := Nat.pow_le_pow_right (by omega) hlt
        have h3 : 4503599627370496 * 2 ^ (q + 1) ≤ (4503599627370496 + g) * 2 ^ p := Nat.mul_le_mul (by omega) h2
        rw [Nat.pow_succ] at h3
        omega
theorem vV_zero : vV 0 = 0 := by decide
theorem vV_ord (x y : Bool) (r s : Nat) : ordI (if x then -(vV r : Int) else vV r) (if y then -(vV s : Int) else vV s) = ordI (if x then -(r : Int) else r) (if y then -(s : Int) else s) := by
  have key : ∀ a b : Nat, (vV a < vV b ↔ a < b) ∧ (vV a = vV b ↔ a = b) := fun a b => by
    rcases Nat.lt_trichotomy a b with h | h | h
    · have := vV_mono h; omega
    · subst h; omega
    · have := vV_mono h; omega
  have k1 := key r s
  have k2 := key s r
  have k3 := key 0 r
  have k4 := key 0 s
  rw [vV_zero] at k3 k4
  unfold ordI
  cases x <;> cases y <;> simp only [if_true, if_false, Bool.false_eq_true] <;> (repeat' split) <;> first | rfl | (exfalso; omega)
theorem read_num (b : Nat) (h : b < 18446744073709551616) (hf : mg b < 9218868437227405312) : D64.read b = .number (sg b) (mgV (mg b)) (D64.leastPlace + (upV (mg b) : Nat)) := by
  have hs : D64.signWeight = 9223372036854775808 := by decide
  have hb : D64.binade = 4503599627370496 := by decide
  have hi : D64.infRung = 9218868437227405312 := by decide
  unfold Ieee.Format.read
  simp only [hs, hb, hi]
  have e1 : (b / 9223372036854775808 % 2 == 1) = sg b := by
    unfold sg
    by_cases hh : 9223372036854775808 ≤ b
    · rw [decide_eq_true hh]; exact beq_iff_eq.2 (by omega)
    · rw [decide_eq_false hh]; exact beq_eq_false_iff_ne.2 (by omega)
  rw [e1]
  show (if mg b < _ then _ else _) = _
  unfold mgV upV
  by_cases h1 : mg b < 4503599627370496
  · rw [if_pos h1, if_pos h1, if_pos h1]
    simp [mg]
  · rw [if_neg h1, if_neg h1, if_neg h1]
    show (if mg b < _ then _ else _) = _
    rw [if_pos hf]
    rfl
theorem read_inf (b : Nat) (h : b < 18446744073709551616) (hf : mg b = 9218868437227405312) : D64.read b = .infinity (sg b) := by
  have hs : D64.signWeight = 9223372036854775808 := by decide
  have hb : D64.binade = 4503599627370496 := by decide
  have hi : D64.infRung = 9218868437227405312 := by decide
  unfold Ieee.Format.read
  simp only [hs, hb, hi]
  have e1 : (b / 9223372036854775808 % 2 == 1) = sg b := by
    unfold sg
    by_cases hh : 9223372036854775808 ≤ b
    · rw [decide_eq_true hh]; exact beq_iff_eq.2 (by omega)
    · rw [decide_eq_false hh]; exact beq_eq_false_iff_ne.2 (by omega)
  rw [e1]
  show (if mg b < _ then _ else if mg b < _ then _ else if mg b = _ then _ else _) = _
  rw [if_neg (by omega), if_neg (by omega), if_pos hf]
theorem read_nan (b : Nat) (hf : isN b = true) : ∃ s f, D64.read b = .nan s f := by
  have hf' : 9218868437227405312 < mg b := of_decide_eq_true hf
  have hs : D64.signWeight = 9223372036854775808 := by decide
  have hb : D64.binade = 4503599627370496 := by decide
  have hi : D64.infRung = 9218868437227405312 := by decide
  unfold Ieee.Format.read
  simp only [hs, hb, hi]
  unfold mg at hf'
  rw [if_neg (by omega), if_neg (by omega), if_neg (by omega)]
  exact ⟨_, _, rfl⟩
theorem signed_eq (s : Bool) (m k : Nat) : Ieee.signed s m k = if s then -((m * 2 ^ k : Nat) : Int) else ((m * 2 ^ k : Nat) : Int) := by
  unfold Ieee.signed
  rw [Nat.shiftLeft_eq]
theorem order_nums (s t : Bool) (m n u v : Nat) (p : Int) : (Ieee.Datum.number s m (p + (u : Nat))).order (.number t n (p + (v : Nat))) = some (ordI (if s then -((m * 2 ^ u : Nat) : Int) else ((m * 2 ^ u : Nat) : Int)) (if t then -((n * 2 ^ v : Nat) : Int) else ((n * 2 ^ v : Nat) : Int))) := by
  show some (compare (Ieee.signed s m (p + (u : Nat) - min (p + (u : Nat)) (p + (v : Nat))).toNat) (Ieee.signed t n (p + (v : Nat) - min (p + (u : Nat)) (p + (v : Nat))).toNat)) = _
  have e1 : (p + (u : Nat) - min (p + (u : Nat)) (p + (v : Nat))).toNat = u - min u v := by omega
  have e2 : (p + (v : Nat) - min (p + (u : Nat)) (p + (v : Nat))).toNat = v - min u v := by omega
  rw [e1, e2, ordI_eq, signed_eq, signed_eq]
  congr 1
  rw [← ordI_mul _ _ (2 ^ min u v) (Nat.two_pow_pos _)]
  have f1 : m * 2 ^ (u - min u v) * 2 ^ min u v = m * 2 ^ u := by rw [Nat.mul_assoc, ← Nat.pow_add]; congr 2; omega
  have f2 : n * 2 ^ (v - min u v) * 2 ^ min u v = n * 2 ^ v := by rw [Nat.mul_assoc, ← Nat.pow_add]; congr 2; omega
  have g : ∀ (b : Bool) (x c : Nat), (if b then -(x : Int) else (x : Int)) * (c : Int) = if b then -((x * c : Nat) : Int) else ((x * c : Nat) : Int) := fun b x c => by
    cases b <;> simp [Int.neg_mul]
  rw [g, g, f1, f2]
/-- How two stand: by their rungs. -/
theorem order_eq (a b : Nat) (ha : a < 18446744073709551616) (hb : b < 18446744073709551616) : D64.order a b = if isN a || isN b then none else some (ordI (sv a) (sv b)) := by
  show (D64.read a).order (D64.read b) = _
  by_cases na : isN a = true
  · obtain ⟨s, f, e⟩ := read_nan a na
    rw [e, na]
    simp [Ieee.Datum.order]
  by_cases nb : isN b = true
  · obtain ⟨s, f, e⟩ := read_nan b nb
    rw [e, nb]
    simp only [Bool.or_true, if_true]
    cases D64.read a <;> rfl
  have la : mg a ≤ 9218868437227405312 := Nat.le_of_not_lt (fun h => na (decide_eq_true h))
  have lb : mg b ≤ 9218868437227405312 := Nat.le_of_not_lt (fun h => nb (decide_eq_true h))
  rw [if_neg (by simp [na, nb])]
  have kk : ∀ (x y : Bool) (r s : Nat), r < 9218868437227405312 → s = 9218868437227405312 → ordI (if x then -(r : Int) else r) (if y then -(s : Int) else s) = (if y then .gt else .lt) ∧ ordI (if y then -(s : Int) else s) (if x then -(r : Int) else r) = (if y then .lt else .gt) := fun x y r s h1 h2 => by
    unfold ordI
    cases x <;> cases y <;> simp only [if_true, if_false, Bool.false_eq_true] <;> constructor <;> (repeat' split) <;> first | rfl | (exfalso; omega)
  by_cases fa : mg a = 9218868437227405312
  · rw [read_inf a ha fa]
    by_cases fb : mg b = 9218868437227405312
    · rw [read_inf b hb fb]
      show some (compare (sg b).toNat (sg a).toNat) = _
      rw [ordN_eq]
      unfold sv
      rw [fa, fb]
      cases sg a <;> cases sg b <;> rfl
    · rw [read_num b hb (by omega)]
      show some (if sg a then Ordering.lt else .gt) = _
      rw [show ordI (sv a) (sv b) = (if sg a then .lt else .gt) from (kk (sg b) (sg a) (mg b) (mg a) (by omega) fa).2]
  · rw [read_num a ha (by omega)]
    by_cases fb : mg b = 9218868437227405312
    · rw [read_inf b hb fb]
      show some (if sg b then Ordering.gt else .lt) = _
      rw [show ordI (sv a) (sv b) = (if sg b then .gt else .lt) from (kk (sg a) (sg b) (mg a) (mg b) (by omega) fb).1]
    · rw [read_num b hb (by omega), order_nums]
      exact congrArg some (vV_ord (sg a) (sg b) (mg a) (mg b))
/-! ### Kinds, digits, the key -/
def fk (b : Nat) : Int := if isN b then 7 else if mg b = 9218868437227405312 then (if sg b then 1 else 6) else if mg b = 0 then (if sg b then 3 else 4) else if sg b then 2 else 5
def bitsF (b : Nat) : Nat := if isN b then 9221120237041090560 else b
/-- The order of all: no number behind all. -/
def kf (b : Nat) : Int := if isN b then 9223372036854775808 else if sg b then -(mg b : Int) - 1 else (mg b : Int)
def flt (a b : Nat) : Bool := decide (kf a < kf b)
theorem sg_eq {b : Nat} (h : b < 18446744073709551616) : b = (if sg b then 9223372036854775808 else 0) + mg b := by
  unfold sg mg
  by_cases hh : 9223372036854775808 ≤ b
  · rw [decide_eq_true hh]; simp only [if_true]; omega
  · rw [decide_eq_false hh]; simp only [Bool.false_eq_true, if_false]; omega
theorem mg_lt (b : Nat) : mg b < 9223372036854775808 := Nat.mod_lt _ (by decide)
theorem kf_bits {a b : Nat} (ha : a < 18446744073709551616) (hb : b < 18446744073709551616) : bitsF a = bitsF b ↔ kf a = kf b := by
  have ea := sg_eq ha
  have eb := sg_eq hb
  have la := mg_lt a
  have lb := mg_lt b
  have n0 : isN 9221120237041090560 = true := by decide
  unfold bitsF kf
  by_cases na : isN a = true <;> by_cases nb : isN b = true
  · rw [if_pos na, if_pos nb, if_pos na, if_pos nb]; simp
  · rw [if_pos na, if_neg nb, if_pos na, if_neg nb]
    constructor
    · intro h; rw [h] at n0; exact absurd n0 nb
    · intro h; exfalso; cases hs : sg b <;> rw [hs] at h <;> simp only [if_true, Bool.false_eq_true, if_false] at h <;> omega
  · rw [if_neg na, if_pos nb, if_neg na, if_pos nb]
    constructor
    · intro h; rw [← h] at n0; exact absurd n0 na
    · intro h; exfalso; cases hs : sg a <;> rw [hs] at h <;> simp only [if_true, Bool.false_eq_true, if_false] at h <;> omega
  · rw [if_neg na, if_neg nb, if_neg na, if_neg nb]
    cases hs : sg a <;> cases ht : sg b <;> rw [hs] at ea <;> rw [ht] at eb <;> simp only [if_true, Bool.false_eq_true, if_false] at ea eb ⊢ <;> omega
theorem fk_kf (a b : Nat) : flt a b = (decide (fk a < fk b) || (decide (fk a = fk b) && (!isN a && decide (sv a < sv b)))) := by
  have la := mg_lt a
  have lb := mg_lt b
  unfold flt kf fk sv
  by_cases na : isN a = true <;> by_cases nb : isN b = true
  · simp [na, nb]
  · have : mg b ≤ 9218868437227405312 := Nat.le_of_not_lt (fun h => nb (decide_eq_true h))
    simp only [na, nb, if_true, if_false, Bool.false_eq_true]
    cases hs : sg b <;> simp only [if_true, Bool.false_eq_true, if_false] <;> (repeat' split) <;> simp <;> omega
  · have : mg a ≤ 9218868437227405312 := Nat.le_of_not_lt (fun h => na (decide_eq_true h))
    simp only [na, nb, if_true, if_false, Bool.false_eq_true]
    cases hs : sg a <;> simp only [if_true, Bool.false_eq_true, if_false] <;> (repeat' split) <;> simp <;> omega
  · have h1 : mg a ≤ 9218868437227405312 := Nat.le_of_not_lt (fun h => na (decide_eq_true h))
    have h2 : mg b ≤ 9218868437227405312 := Nat.le_of_not_lt (fun h => nb (decide_eq_true h))
    simp only [na, nb, if_false, Bool.false_eq_true]
    cases hs : sg a <;> cases ht : sg b <;> simp only [if_true, Bool.false_eq_true, if_false] <;> (repeat' split) <;> simp <;> omega
end Go.Proofs.Ytbpgbjhjnemaoaa
