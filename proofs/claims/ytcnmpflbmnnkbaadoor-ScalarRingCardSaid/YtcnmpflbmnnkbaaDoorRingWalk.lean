/- syngraphlaw05.ScalarRing: the walk. -/
import Derived.Test.YtcnmpflbmnnkbaaDoorRingBase
namespace Go.Proofs.YtcnmpflbmnnkbaaDoor
open Go.RowKit
set_option maxRecDepth 100000 in
set_option maxHeartbeats 4000000 in
theorem ring_walk (a b c : ByteArray) (w : World) (hord : Ord w) : Calls Tryd.prog 5 #[.string a, .string b, .string c] w fun e w' => e = .returned (.bool true) ∧ Touch [] w w' := by
  obtain ⟨X, hX⟩ : ∃ n, n = numS a % ell := ⟨_, rfl⟩
  obtain ⟨Y, hY⟩ : ∃ n, n = numS b % ell := ⟨_, rfl⟩
  obtain ⟨Z, hZ⟩ : ∃ n, n = numS c % ell := ⟨_, rfl⟩
  have ca := Lib.hid (cuL a X hX.symm)
  have cb := Lib.hid (cuL b Y hY.symm)
  have cc := Lib.hid (cuL c Z hZ.symm)
  have lX : X < ell := hX ▸ mod_ell _
  have lY : Y < ell := hY ▸ mod_ell _
  have lZ : Z < ell := hZ ▸ mod_ell _
  clear hX hY hZ
  have r1 := Lib.hid (riL (toS X) true (right_toS lX))
  have c1 := Lib.hid (cuL (toS X) X (by rw [num_toS lX, Nat.mod_eq_of_lt lX]))
  obtain ⟨P, hP⟩ : ∃ n, n = (X * Y + Z) % ell := ⟨_, rfl⟩
  have m1 := Lib.hid (maL (toS X) (toS Y) (toS Z) X Y Z P (low_toS lX) (low_toS lY) (low_toS lZ) hP.symm)
  have m2 := Lib.hid (maL (toS Y) (toS X) (toS Z) Y X Z P (low_toS lY) (low_toS lX) (low_toS lZ) (by rw [hP, Nat.mul_comm]))
  have m3 := Lib.hid (maL (toS X) ⟨#[1]⟩ ⟨#[]⟩ X 1 0 X (low_toS lX) low_one low_none (by rw [Nat.mul_one, Nat.add_zero, Nat.mod_eq_of_lt lX]))
  obtain ⟨S, hS⟩ : ∃ n, n = (X * 1 + Y) % ell := ⟨_, rfl⟩
  have lS : S < ell := hS ▸ mod_ell _
  have m4 := Lib.hid (maL (toS X) ⟨#[1]⟩ (toS Y) X 1 Y S (low_toS lX) low_one (low_toS lY) hS.symm)
  obtain ⟨Q, hQ⟩ : ∃ n, n = (S * Z + 0) % ell := ⟨_, rfl⟩
  have m5 := Lib.hid (maL (toS S) (toS Z) ⟨#[]⟩ S Z 0 Q (low_toS lS) (low_toS lZ) low_none hQ.symm)
  obtain ⟨V, hV⟩ : ∃ n, n = (Y * Z + 0) % ell := ⟨_, rfl⟩
  have lV : V < ell := hV ▸ mod_ell _
  have m6 := Lib.hid (maL (toS Y) (toS Z) ⟨#[]⟩ Y Z 0 V (low_toS lY) (low_toS lZ) low_none hV.symm)
  have m7 := Lib.hid (maL (toS X) (toS Z) (toS V) X Z V Q (low_toS lX) (low_toS lZ) (low_toS lV) (by rw [hQ, hS, hV, ring_assoc]))
  obtain ⟨N, hN⟩ : ∃ n, n = negN X := ⟨_, rfl⟩
  have lN : N < ell := hN ▸ negN_lt _
  have n1 := Lib.hid (neL (toS X) N (by rw [num_toS lX, hN]))
  have m8 := Lib.hid (maL (toS X) ⟨#[1]⟩ (toS N) X 1 N 0 (low_toS lX) low_one (low_toS lN) (by rw [hN]; exact neg_sum lX))
  have n2 := Lib.hid (neL (toS N) X (by rw [num_toS lN, hN, neg_neg lX]))
  clear hP hS lS hQ hV lV hN lN lX lY lZ
  have T := Lib.hid (Touch.refl [] w)
  have Hord := Lib.hid hord
  clear hord
  go_enter Tryd.func5, Tryd.ntmps5
  go_wp2_with fail
  refine (ca.out _ (Hord.out.touch T.out)).mono ?_
  rintro e wz ⟨rfl, ht⟩
  replace T := Lib.hid (T.out.trans ht)
  clear ht
  go_wp2_with fail
  refine (cb.out _ (Hord.out.touch T.out)).mono ?_
  rintro e wz ⟨rfl, ht⟩
  replace T := Lib.hid (T.out.trans ht)
  clear ht
  go_wp2_with fail
  refine (cc.out _ (Hord.out.touch T.out)).mono ?_
  rintro e wz ⟨rfl, ht⟩
  replace T := Lib.hid (T.out.trans ht)
  clear ht
  go_wp2_with fail
  refine (r1.out _ (Hord.out.touch T.out)).mono ?_
  rintro e wz ⟨rfl, ht⟩
  replace T := Lib.hid (T.out.trans ht)
  clear ht
  go_wp2_with fail
  refine (c1.out _ (Hord.out.touch T.out)).mono ?_
  rintro e wz ⟨rfl, ht⟩
  replace T := Lib.hid (T.out.trans ht)
  clear ht
  go_wp2_with fail
  refine (m1.out _ (Hord.out.touch T.out)).mono ?_
  rintro e wz ⟨rfl, ht⟩
  replace T := Lib.hid (T.out.trans ht)
  clear ht
  go_wp2_with fail
  refine (m2.out _ (Hord.out.touch T.out)).mono ?_
  rintro e wz ⟨rfl, ht⟩
  replace T := Lib.hid (T.out.trans ht)
  clear ht
  go_wp2_with fail
  refine (m3.out _ (Hord.out.touch T.out)).mono ?_
  rintro e wz ⟨rfl, ht⟩
  replace T := Lib.hid (T.out.trans ht)
  clear ht
  go_wp2_with fail
  refine (m4.out _ (Hord.out.touch T.out)).mono ?_
  rintro e wz ⟨rfl, ht⟩
  replace T := Lib.hid (T.out.trans ht)
  clear ht
  go_wp2_with fail
  refine (m5.out _ (Hord.out.touch T.out)).mono ?_
  rintro e wz ⟨rfl, ht⟩
  replace T := Lib.hid (T.out.trans ht)
  clear ht
  go_wp2_with fail
  refine (m6.out _ (Hord.out.touch T.out)).mono ?_
  rintro e wz ⟨rfl, ht⟩
  replace T := Lib.hid (T.out.trans ht)
  clear ht
  go_wp2_with fail
  refine (m7.out _ (Hord.out.touch T.out)).mono ?_
  rintro e wz ⟨rfl, ht⟩
  replace T := Lib.hid (T.out.trans ht)
  clear ht
  go_wp2_with fail
  refine (n1.out _ (Hord.out.touch T.out)).mono ?_
  rintro e wz ⟨rfl, ht⟩
  replace T := Lib.hid (T.out.trans ht)
  clear ht
  go_wp2_with fail
  refine (m8.out _ (Hord.out.touch T.out)).mono ?_
  rintro e wz ⟨rfl, ht⟩
  replace T := Lib.hid (T.out.trans ht)
  clear ht
  go_wp2_with fail
  refine (zero_any _).mono ?_
  rintro e wz ⟨rfl, rfl⟩
  rw [zeroS_eq]
  go_wp2_with fail
  refine (n1.out _ (Hord.out.touch T.out)).mono ?_
  rintro e wz ⟨rfl, ht⟩
  replace T := Lib.hid (T.out.trans ht)
  clear ht
  go_wp2_with fail
  refine (n2.out _ (Hord.out.touch T.out)).mono ?_
  rintro e wz ⟨rfl, ht⟩
  replace T := Lib.hid (T.out.trans ht)
  clear ht
  go_wp2_with fail
  refine (fixed_any _ (Hord.out.touch T.out)).mono ?_
  rintro e wz ⟨rfl, ht⟩
  replace T := Lib.hid (T.out.trans ht)
  clear ht
  go_wp2_with fail
  go_ret
  exact ⟨rfl, T.out⟩
end Go.Proofs.YtcnmpflbmnnkbaaDoor
