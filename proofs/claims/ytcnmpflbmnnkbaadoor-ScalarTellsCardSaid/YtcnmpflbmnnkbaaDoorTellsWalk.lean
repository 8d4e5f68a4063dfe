/- syngraphlaw05.ScalarTells: the walk. -/
import Derived.Test.YtcnmpflbmnnkbaaDoorRefSg
import Derived.Test.YtcnmpflbmnnkbaaDoorRingBase
namespace Go.Proofs.YtcnmpflbmnnkbaaDoor
open Go.RowKit
set_option maxRecDepth 100000 in
set_option maxHeartbeats 4000000 in
theorem tells_walk (a b c : ByteArray) (w : World) (hord : Ord w) : Calls Tryd.prog 3 #[.string a, .string b, .string c] w fun e w' => e = .returned (.bool true) ∧ Touch [] w w' := by
  obtain ⟨B, hB⟩ : ∃ n, n = rightB a := ⟨_, rfl⟩
  obtain ⟨X, hX⟩ : ∃ n, n = numS a % ell := ⟨_, rfl⟩
  obtain ⟨M, hM⟩ : ∃ n, n = (lowS a * lowS b + lowS c) % ell := ⟨_, rfl⟩
  obtain ⟨N, hN⟩ : ∃ n, n = negN (numS a) := ⟨_, rfl⟩
  have r1 := Lib.hid (riL a B hB.symm)
  have c1 := Lib.hid (cuL a X hX.symm)
  have m1 := Lib.hid (maL a b c _ _ _ M rfl rfl rfl hM.symm)
  have n1 := Lib.hid (neL a N hN.symm)
  have r2 := Lib.hid (fun W : World => hB ▸ refRight_any a W)
  have c2 := Lib.hid (fun W : World => hX ▸ refCut_any a W)
  have m2 := Lib.hid (fun W : World => hM ▸ refMulAdd_any a b c W)
  have n2 := Lib.hid (fun W : World => hN ▸ refNeg_any a W)
  clear hB hX hM hN
  have T := Lib.hid (Touch.refl [] w)
  have Hord := Lib.hid hord
  clear hord
  go_enter Tryd.func3, Tryd.ntmps3
  go_wp2_with fail
  refine (r1.out _ (Hord.out.touch T.out)).mono ?_
  rintro e wz ⟨rfl, ht⟩
  replace T := Lib.hid (T.out.trans ht)
  clear ht
  go_wp2_with fail
  refine (r2.out _).mono ?_
  rintro e wz ⟨rfl, ht⟩
  replace T := Lib.hid (T.out.trans ht)
  clear ht
  go_wp2_with fail
  refine (c1.out _ (Hord.out.touch T.out)).mono ?_
  rintro e wz ⟨rfl, ht⟩
  replace T := Lib.hid (T.out.trans ht)
  clear ht
  go_wp2_with fail
  refine (c2.out _).mono ?_
  rintro e wz ⟨rfl, ht⟩
  replace T := Lib.hid (T.out.trans ht)
  clear ht
  go_wp2_with fail
  refine (m1.out _ (Hord.out.touch T.out)).mono ?_
  rintro e wz ⟨rfl, ht⟩
  replace T := Lib.hid (T.out.trans ht)
  clear ht
  go_wp2_with fail
  refine (m2.out _).mono ?_
  rintro e wz ⟨rfl, ht⟩
  replace T := Lib.hid (T.out.trans ht)
  clear ht
  go_wp2_with fail
  refine (n1.out _ (Hord.out.touch T.out)).mono ?_
  rintro e wz ⟨rfl, ht⟩
  replace T := Lib.hid (T.out.trans ht)
  clear ht
  go_wp2_with fail
  refine (n2.out _).mono ?_
  rintro e wz ⟨rfl, ht⟩
  replace T := Lib.hid (T.out.trans ht)
  clear ht
  go_wp2_with fail
  refine (fixed_any _ (Hord.out.touch T.out)).mono ?_
  rintro e wz ⟨rfl, ht⟩
  replace T := Lib.hid (T.out.trans ht)
  clear ht
  go_wp2_with fail
  go_ret
  exact ⟨rfl, T.out⟩
end Go.Proofs.YtcnmpflbmnnkbaaDoor
