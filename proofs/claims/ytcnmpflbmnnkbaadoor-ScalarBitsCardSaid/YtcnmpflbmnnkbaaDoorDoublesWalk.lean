/- syngraphlaw05.ScalarDoubles: the walk. -/
import Derived.Test.YtcnmpflbmnnkbaaDoorDigitsWalk
namespace Go.Proofs.YtcnmpflbmnnkbaaDoor
open Go.RowKit
theorem num_app_zero (t : ByteArray) (h : t.size < 60) : numS (t ++ ⟨#[0]⟩) = numS t := by
  unfold numS
  rw [bl_app, List.take_of_length_le (by rw [List.length_append, bl_len]; show t.size + 1 ≤ 64; omega), List.take_of_length_le (by rw [bl_len]; omega), leN_append]
  simp [bl, leN]
theorem num_app_far (t u : ByteArray) (h : 64 ≤ t.size) : numS (t ++ u) = numS t := by
  unfold numS
  rw [bl_app, List.take_append_of_le_length (by rw [bl_len]; exact h)]
set_option maxRecDepth 100000 in
set_option maxHeartbeats 4000000 in
theorem doubles_walk (s : ByteArray) (c : Int) (w : World) (hord : Ord w) : Calls Tryd.prog 8 #[.string s, .int .u8 c] w fun e w' => e = .returned (.bool true) ∧ Touch [] w w' := by
  have hcl := Lib.hid (fun (h : s.size ≤ 100) => cutT_le h)
  have hcg := Lib.hid (fun (h : 100 < s.size) => cutT_gt h)
  obtain ⟨t, ht⟩ : ∃ t, t = cutT s 100 := ⟨_, rfl⟩
  have hts := cutT_size s 100
  rw [← ht] at hcl hcg hts
  clear ht
  replace hts : t.size ≤ 100 := by omega
  obtain ⟨X, hX⟩ : ∃ n, n = numS t % ell := ⟨_, rfl⟩
  have lX : X < ell := hX ▸ mod_ell _
  have ct := Lib.hid (cuL t X hX.symm)
  have c0 := Lib.hid (fun (h : t.size < 60) => cuL (t ++ ⟨#[0]⟩) X (by rw [num_app_zero t h, hX]))
  have cf := Lib.hid (fun (h : 64 ≤ t.size) => cuL (t ++ strOfNums [c]) X (by rw [num_app_far _ _ h, hX]))
  obtain ⟨D, hD⟩ : ∃ n, n = (X * 2 + 0) % ell := ⟨_, rfl⟩
  have lD : D < ell := hD ▸ mod_ell _
  have m1 := Lib.hid (maL (toS X) ⟨#[2]⟩ ⟨#[]⟩ X 2 0 D (low_toS lX) low_two low_none hD.symm)
  have m2 := Lib.hid (maL (toS X) ⟨#[1]⟩ (toS X) X 1 X D (low_toS lX) low_one (low_toS lX) (by rw [hD, Nat.mul_one, Nat.add_zero, Nat.mul_two]))
  have m3 := Lib.hid (maL ⟨#[]⟩ (toS X) (toS X) 0 X X X low_none (low_toS lX) (low_toS lX) (by rw [Nat.zero_mul, Nat.zero_add, Nat.mod_eq_of_lt lX]))
  have r1 := Lib.hid (riL (toS D) true (right_toS lD))
  clear hX lX hD lD
  have T := Lib.hid (Touch.refl [] w)
  have Hord := Lib.hid hord
  clear hord
  have hconv := conv_one c
  go_enter Tryd.func8, Tryd.ntmps8
  go_upto_region 1 with fail
  go_cut [5] (fun v wx => v = .string t ∧ w = wx)
  case first =>
    go_wp2_with fail
    all_goals go_meet
    · have h : (100 : Int) < s.size := by assumption
      exact ⟨by rw [hcg.out (by omega)], rfl⟩
    · have h : (s.size : Int) ≤ 100 := by assumption
      exact ⟨by rw [hcl.out (by omega)], rfl⟩
  case rest =>
    obtain ⟨rfl, rfl⟩ := hcut
    go_wp2_with fail
    refine (ct.out _ (Hord.out.touch T.out)).mono ?_
    rintro e wz ⟨rfl, ht⟩
    replace T := Lib.hid (T.out.trans ht)
    clear ht
    go_wp2_with fail
    refine (m1.out _ (Hord.out.touch T.out)).mono ?_
    rintro e wz ⟨rfl, ht⟩
    replace T := Lib.hid (T.out.trans ht)
    clear ht
    go_upto_region 4 with fail
    go_cut [41] (fun v wx => v = .bool false ∧ Touch [] w wx)
    case first =>
      by_cases h60 : t.size < 60
      · go_wp2_with fail
        refine (c0.out h60 _ (Hord.out.touch T.out)).mono ?_
        rintro e wz ⟨rfl, ht⟩
        replace T := Lib.hid (T.out.trans ht)
        clear ht
        go_wp2_with fail
        go_meet
        exact ⟨rfl, T.out⟩
      · by_cases h64 : 64 ≤ t.size
        · have hone : (strOfNums [c]).size = 1 := rfl
          go_wp2_with fail
          have hT1 := T.out.alloc (.cells #[.int .u8 c] 5)
          refine (cf.out h64 _ (Hord.out.touch hT1)).mono ?_
          rintro e wz ⟨rfl, ht⟩
          replace T := Lib.hid (hT1.trans ht)
          clear ht
          go_wp2_with fail
          go_meet
          exact ⟨rfl, T.out⟩
        · go_wp2_with fail
          go_meet
          exact ⟨rfl, T.out⟩
    case rest =>
      obtain ⟨rfl, ht⟩ := hcut
      replace T := Lib.hid ht
      clear ht
      go_wp2_with fail
      refine (m2.out _ (Hord.out.touch T.out)).mono ?_
      rintro e wz ⟨rfl, ht⟩
      replace T := Lib.hid (T.out.trans ht)
      clear ht
      go_wp2_with fail
      refine (m3.out _ (Hord.out.touch T.out)).mono ?_
      rintro e wz ⟨rfl, ht⟩
      replace T := Lib.hid (T.out.trans ht)
      clear ht
      go_wp2_with fail
      refine (r1.out _ (Hord.out.touch T.out)).mono ?_
      rintro e wz ⟨rfl, ht⟩
      replace T := Lib.hid (T.out.trans ht)
      clear ht
      go_wp2_with fail
      refine (fixed_any _ (Hord.out.touch T.out)).mono ?_
      rintro e wz ⟨rfl, ht⟩
      replace T := Lib.hid (T.out.trans ht)
      clear ht
      go_wp2_with fail
      go_ret
      exact ⟨rfl, T.out⟩
end Go.Proofs.YtcnmpflbmnnkbaaDoor
