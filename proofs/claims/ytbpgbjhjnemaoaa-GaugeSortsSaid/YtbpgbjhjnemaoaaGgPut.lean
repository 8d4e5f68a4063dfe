/- The plain law of an insertion: a number laid into a sorted row at the place j. -/
import Derived.Test.YtbpgbjhjnemaoaaGgSort
namespace Go.Proofs.Ytbpgbjhjnemaoaa
open Go
def putAt (d : Nat → Nat) (j x : Nat) : Nat → Nat := fun i => if i < j then d i else if i = j then x else d (i - 1)
theorem srt_put {d : Nat → Nat} {n j x : Nat} (h : Srt d 0 n) (hj : j ≤ n) (hi : ∀ i, j ≤ i → i < n → kf x < kf (d i)) (hlo : j = 0 ∨ ¬ kf x < kf (d (j - 1))) : Srt (putAt d j x) 0 (n + 1) := fun p q _ hpq hq => by
  have hlow : ∀ i, i < j → kf (d i) ≤ kf x := fun i h1 => by
    rcases hlo with h0 | h0
    · omega
    · have := h i (j - 1) (by omega) (by omega) (by omega)
      omega
  unfold putAt
  by_cases hp : p < j
  · rw [if_pos hp]
    by_cases hq1 : q < j
    · rw [if_pos hq1]
      exact h p q (by omega) hpq (by omega)
    · rw [if_neg hq1]
      by_cases hq2 : q = j
      · rw [if_pos hq2]
        exact hlow p hp
      · rw [if_neg hq2]
        exact h p (q - 1) (by omega) (by omega) (by omega)
  · rw [if_neg hp, if_neg (show ¬ q < j by omega)]
    by_cases hp2 : p = j
    · rw [if_pos hp2]
      by_cases hq2 : q = j
      · rw [if_pos hq2]
        exact Int.le_refl _
      · rw [if_neg hq2]
        have := hi (q - 1) (by omega) (by omega)
        omega
    · rw [if_neg hp2, if_neg (show ¬ q = j by omega)]
      exact h (p - 1) (q - 1) (by omega) (by omega) (by omega)
theorem cnt_put (d : Nat → Nat) (t : Int) (j x : Nat) (k : Nat) : cnt (putAt d j x) t (j + 1 + k) = cnt d t (j + k) + (if kf x < t then 1 else 0) := by
  induction k with
  | zero =>
    have h1 : cnt (putAt d j x) t j = cnt d t j := cnt_congr fun i hi => by unfold putAt; rw [if_pos hi]
    have h2 : putAt d j x j = x := by unfold putAt; rw [if_neg (by omega), if_pos rfl]
    show cnt (putAt d j x) t j + (if kf (putAt d j x j) < t then 1 else 0) = _
    rw [h1, h2]
    rfl
  | succ k ih =>
    have h2 : putAt d j x (j + 1 + k) = d (j + k) := by
      unfold putAt
      rw [if_neg (by omega), if_neg (by omega)]
      exact congrArg d (by omega)
    show cnt (putAt d j x) t (j + 1 + k) + (if kf (putAt d j x (j + 1 + k)) < t then 1 else 0) = (cnt d t (j + k) + (if kf (d (j + k)) < t then 1 else 0)) + _
    rw [ih, h2]
    omega
theorem cnt_put' (d : Nat → Nat) (t : Int) {j n : Nat} (x : Nat) (hj : j ≤ n) : cnt (putAt d j x) t (n + 1) = cnt d t n + (if kf x < t then 1 else 0) := by
  have h := cnt_put d t j x (n - j)
  rw [show j + 1 + (n - j) = n + 1 by omega, show j + (n - j) = n by omega] at h
  exact h
end Go.Proofs.Ytbpgbjhjnemaoaa
