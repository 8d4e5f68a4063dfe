/- syngraphlaw01.fixed: the calls whose answers the document fixes. -/
import Derived.Test.YtfpnciackndbiaaSatB
import Derived.Test.YtfpnciackndbiaaSatC
namespace Go.Proofs.Ytfpnciackndbiaa
open Go.RowKit
set_option maxRecDepth 100000 in
set_option maxHeartbeats 1000000 in
theorem fixed_any (w : World) : Calls Try.prog 24 #[] w fun e w' => e = .returned (.bool true) ∧ Touch [] w w' := by
  have a1 : ∀ W : World, Calls Try.prog 10 #[.int .u64 9223372036854775808, .int .u64 9223372036854775808] W fun e w' => e = .returned (.int .u64 18446744073709551615) ∧ W = w' := fun W => by
    have h := satAdd_any 9223372036854775808 9223372036854775808 (by omega) (by omega) (by omega) (by omega) W
    rw [show addS 9223372036854775808 9223372036854775808 = 18446744073709551615 from by decide] at h
    exact h
  have a2 : ∀ W : World, Calls Try.prog 10 #[.int .u64 2, .int .u64 3] W fun e w' => e = .returned (.int .u64 5) ∧ W = w' := fun W => by
    have h := satAdd_any 2 3 (by omega) (by omega) (by omega) (by omega) W
    rw [show addS 2 3 = 5 from by decide] at h
    exact h
  have s1 : ∀ W : World, Calls Try.prog 12 #[.int .u64 3, .int .u64 5] W fun e w' => e = .returned (.int .u64 0) ∧ W = w' := fun W => by
    have h := satSub_any 3 5 (by omega) (by omega) (by omega) (by omega) W
    rw [show subS 3 5 = 0 from by decide] at h
    exact h
  have s2 : ∀ W : World, Calls Try.prog 12 #[.int .u64 5, .int .u64 3] W fun e w' => e = .returned (.int .u64 2) ∧ W = w' := fun W => by
    have h := satSub_any 5 3 (by omega) (by omega) (by omega) (by omega) W
    rw [show subS 5 3 = 2 from by decide] at h
    exact h
  have m1 : ∀ W : World, Calls Try.prog 14 #[.int .u64 4294967296, .int .u64 4294967296] W fun e w' => e = .returned (.int .u64 18446744073709551615) ∧ W = w' := fun W => by
    have h := satMul_any 4294967296 4294967296 (by omega) (by omega) (by omega) (by omega) W
    rw [show mulS 4294967296 4294967296 = 18446744073709551615 from by decide] at h
    exact h
  have m2 : ∀ W : World, Calls Try.prog 14 #[.int .u64 6, .int .u64 7] W fun e w' => e = .returned (.int .u64 42) ∧ W = w' := fun W => by
    have h := satMul_any 6 7 (by omega) (by omega) (by omega) (by omega) W
    rw [show mulS 6 7 = 42 from by decide] at h
    exact h
  have b1 : ∀ W : World, Calls Try.prog 16 #[.int .u64 3, .int .i64 2, .int .u64 100] W fun e w' => e = .returned (.int .u64 12) ∧ W = w' := fun W => by
    have h := satBack_any 3 (2) 100 (by omega) (by omega) (by omega) (by omega) (by omega) (by omega) W
    rw [show backS 3 (2) 100 = 12 from by decide] at h
    exact h
  have b2 : ∀ W : World, Calls Try.prog 16 #[.int .u64 3, .int .i64 70, .int .u64 100] W fun e w' => e = .returned (.int .u64 100) ∧ W = w' := fun W => by
    have h := satBack_any 3 (70) 100 (by omega) (by omega) (by omega) (by omega) (by omega) (by omega) W
    rw [show backS 3 (70) 100 = 100 from by decide] at h
    exact h
  have b3 : ∀ W : World, Calls Try.prog 16 #[.int .u64 3, .int .i64 (-5), .int .u64 100] W fun e w' => e = .returned (.int .u64 3) ∧ W = w' := fun W => by
    have h := satBack_any 3 (-5) 100 (by omega) (by omega) (by omega) (by omega) (by omega) (by omega) W
    rw [show backS 3 (-5) 100 = 3 from by decide] at h
    exact h
  have c1 : ∀ W : World, Calls Try.prog 20 #[.int .u64 9, .int .u64 2, .int .u64 5] W fun e w' => e = .returned (.int .u64 5) ∧ W = w' := fun W => by
    have h := satCut_any 9 2 5 W
    rw [show cutS 9 2 5 = 5 from by decide] at h
    exact h
  have c2 : ∀ W : World, Calls Try.prog 20 #[.int .u64 1, .int .u64 2, .int .u64 5] W fun e w' => e = .returned (.int .u64 2) ∧ W = w' := fun W => by
    have h := satCut_any 1 2 5 W
    rw [show cutS 1 2 5 = 2 from by decide] at h
    exact h
  have c3 : ∀ W : World, Calls Try.prog 20 #[.int .u64 3, .int .u64 2, .int .u64 5] W fun e w' => e = .returned (.int .u64 3) ∧ W = w' := fun W => by
    have h := satCut_any 3 2 5 W
    rw [show cutS 3 2 5 = 3 from by decide] at h
    exact h
  have d1 : ∀ W : World, Calls Try.prog 18 #[.int .u64 9, .int .u64 25] W fun e w' => e = .returned (.int .u64 5) ∧ W = w' := fun W => by
    have h := satSpread_any 9 25 (by omega) (by omega) (by omega) (by omega) W
    rw [show spreadS 9 25 = 5 from by decide] at h
    exact h
  have d2 : ∀ W : World, Calls Try.prog 18 #[.int .u64 18446744073709551615, .int .u64 7] W fun e w' => e = .returned (.int .u64 7) ∧ W = w' := fun W => by
    have h := satSpread_any 18446744073709551615 7 (by omega) (by omega) (by omega) (by omega) W
    rw [show spreadS 18446744073709551615 7 = 7 from by decide] at h
    exact h
  have i1 : ∀ W : World, Calls Try.prog 22 #[.int .u64 9223372036854775808] W fun e w' => e = .returned (.int .i64 4611686018427387904) ∧ W = w' := fun W => by
    have h := satInt_any 9223372036854775808 (by omega) W
    rw [show intS 9223372036854775808 = 4611686018427387904 from by decide] at h
    exact h
  have i2 : ∀ W : World, Calls Try.prog 22 #[.int .u64 9] W fun e w' => e = .returned (.int .i64 9) ∧ W = w' := fun W => by
    have h := satInt_any 9 (by omega) W
    rw [show intS 9 = 9 from by decide] at h
    exact h
  have g1 : ∀ W : World, Calls Try.prog 25 #[.string ⟨#[0, 0, 0, 0, 0, 0, 1, 2]⟩] W fun e w' => e = .returned (.tuple #[.int .u64 258, .int .i64 0]) ∧ Touch [] W w' := fun W => satGet_any _ W
  have g2 : ∀ W : World, Calls Try.prog 25 #[.string ⟨#[49, 50, 51, 52, 53, 54, 55]⟩] W fun e w' => e = .returned (.tuple #[.int .u64 0, .int .i64 2]) ∧ Touch [] W w' := fun W => satGet_any _ W
  have g3 : ∀ W : World, Calls Try.prog 25 #[.string ⟨#[49, 50, 51, 52, 53, 54, 55, 56, 57]⟩] W fun e w' => e = .returned (.tuple #[.int .u64 0, .int .i64 4]) ∧ Touch [] W w' := fun W => satGet_any _ W
  have p1 : ∀ W : World, Calls Try.prog 27 #[.int .u64 258] W fun e w' => e = .returned (.string ⟨#[0, 0, 0, 0, 0, 0, 1, 2]⟩) ∧ Touch [] W w' := fun W => satPut_any 258 W
  go_enter Try.func24, Try.ntmps24
  go_wp2_with fail
  refine (g1 _).mono ?_
  rintro e w1 ⟨rfl, ht1⟩
  go_wp2_with fail
  refine (g2 _).mono ?_
  rintro e w2 ⟨rfl, ht2⟩
  go_wp2_with fail
  refine (g3 _).mono ?_
  rintro e w3 ⟨rfl, ht3⟩
  go_wp2_with fail
  refine (a1 _).mono ?_
  rintro e w' ⟨rfl, rfl⟩
  go_wp2_with fail
  refine (a2 _).mono ?_
  rintro e w' ⟨rfl, rfl⟩
  go_wp2_with fail
  refine (s1 _).mono ?_
  rintro e w' ⟨rfl, rfl⟩
  go_wp2_with fail
  refine (s2 _).mono ?_
  rintro e w' ⟨rfl, rfl⟩
  go_wp2_with fail
  refine (m1 _).mono ?_
  rintro e w' ⟨rfl, rfl⟩
  go_wp2_with fail
  refine (m2 _).mono ?_
  rintro e w' ⟨rfl, rfl⟩
  go_wp2_with fail
  refine (b1 _).mono ?_
  rintro e w' ⟨rfl, rfl⟩
  go_wp2_with fail
  refine (b2 _).mono ?_
  rintro e w' ⟨rfl, rfl⟩
  go_wp2_with fail
  refine (b3 _).mono ?_
  rintro e w' ⟨rfl, rfl⟩
  go_wp2_with fail
  refine (c1 _).mono ?_
  rintro e w' ⟨rfl, rfl⟩
  go_wp2_with fail
  refine (c2 _).mono ?_
  rintro e w' ⟨rfl, rfl⟩
  go_wp2_with fail
  refine (c3 _).mono ?_
  rintro e w' ⟨rfl, rfl⟩
  go_wp2_with fail
  refine (d1 _).mono ?_
  rintro e w' ⟨rfl, rfl⟩
  go_wp2_with fail
  refine (d2 _).mono ?_
  rintro e w' ⟨rfl, rfl⟩
  go_wp2_with fail
  refine (p1 _).mono ?_
  rintro e w4 ⟨rfl, ht4⟩
  go_wp2_with fail
  refine (i1 _).mono ?_
  rintro e w' ⟨rfl, rfl⟩
  go_wp2_with fail
  refine (i2 _).mono ?_
  rintro e w' ⟨rfl, rfl⟩
  go_wp2_with fail
  go_ret
  exact ⟨rfl, ((ht1.trans ht2).trans ht3).trans ht4⟩
end Go.Proofs.Ytfpnciackndbiaa
