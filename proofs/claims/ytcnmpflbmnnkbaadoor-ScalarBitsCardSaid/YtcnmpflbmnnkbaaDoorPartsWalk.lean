/- syngraphlaw05.ScalarParts: the walk. -/
import Derived.Test.YtcnmpflbmnnkbaaDoorRingBase
namespace Go.Proofs.YtcnmpflbmnnkbaaDoor
open Go.RowKit

theorem bl_ext (s : ByteArray) (i j : Nat) : bl (s.extract i j) = ((bl s).drop i).take (j - i) := by
  unfold bl
  simp [ByteArray.data_extract, List.map_take, List.map_drop]
theorem bl_app (s t : ByteArray) : bl (s ++ t) = bl s ++ bl t := by
  unfold bl
  simp [ByteArray.data_append]
def cutT (s : ByteArray) (n : Nat) : ByteArray := s.extract 0 (min s.size n)
theorem bl_cutT (s : ByteArray) (n : Nat) : bl (cutT s n) = (bl s).take n := by
  unfold cutT
  rw [bl_ext, List.drop_zero, Nat.sub_zero, ← bl_len, Nat.min_comm, ← List.take_take, List.take_length]
theorem cutT_size (s : ByteArray) (n : Nat) : (cutT s n).size = min s.size n := by rw [← bl_len, bl_cutT, List.length_take, bl_len, Nat.min_comm]
theorem cutT_le {s : ByteArray} {n : Nat} (h : s.size ≤ n) : cutT s n = s := by unfold cutT; rw [Nat.min_eq_left h]; simp
theorem cutT_gt {s : ByteArray} {n : Nat} (h : n < s.size) : s.extract 0 n = cutT s n := by unfold cutT; rw [Nat.min_eq_right (by omega)]
/-- what stands from byte n on. -/
def fromT (s : ByteArray) (n : Nat) : ByteArray := s.extract n s.size
theorem bl_fromT (s : ByteArray) (n : Nat) : bl (fromT s n) = (bl s).drop n := by
  unfold fromT
  rw [bl_ext, List.take_of_length_le (by rw [List.length_drop, bl_len]; omega)]
theorem fromT_none {s : ByteArray} {n : Nat} (h : s.size ≤ n) : fromT s n = ⟨#[]⟩ := by
  apply bl_inj
  rw [bl_fromT, List.drop_of_length_le (by rw [bl_len]; exact h)]
  rfl
theorem numS_cutT (s : ByteArray) : numS (cutT s 64) = numS s := by unfold numS; rw [bl_cutT, List.take_take, Nat.min_self]
theorem low_cutT (s : ByteArray) : lowS (cutT s 32) = lowS s := by unfold lowS; rw [bl_cutT, List.take_take, Nat.min_self]
theorem parts_sum (s : ByteArray) : numS s = lowS (fromT (cutT s 64) 32) * 115792089237316195423570985008687907853269984665640564039457584007913129639936 + lowS (cutT (cutT s 64) 32) := by
  rw [low_cutT]
  unfold numS lowS
  rw [bl_fromT, bl_cutT, List.take_take, List.take_of_length_le (l := ((bl s).take 64).drop 32) (by rw [List.length_drop, List.length_take]; omega)]
  conv => lhs; rw [← List.take_append_drop 32 ((bl s).take 64), leN_append, List.take_take]
  by_cases h : (bl s).length ≤ 32
  · rw [List.drop_of_length_le (by rw [List.length_take]; omega)]
    simp [leN]
  · rw [List.length_take]
    simp only [show min 32 (bl s).length = 32 by omega, show min 32 64 = 32 from rfl]
    have e : (256 : Nat) ^ 32 = 115792089237316195423570985008687907853269984665640564039457584007913129639936 := by decide +kernel
    rw [e]
    omega
theorem big_cut : ∃ B, B = 115792089237316195423570985008687907853269984665640564039457584007913129639936 % ell := ⟨_, rfl⟩
theorem zero_one : ((⟨#[0, 0, 0, 0, 0, 0, 0, 0, 0, 0, 0, 0, 0, 0, 0, 0, 0, 0, 0, 0, 0, 0, 0, 0, 0, 0, 0, 0, 0, 0, 0, 0]⟩ : ByteArray) ++ (⟨#[1]⟩ : ByteArray)) = ⟨#[0, 0, 0, 0, 0, 0, 0, 0, 0, 0, 0, 0, 0, 0, 0, 0, 0, 0, 0, 0, 0, 0, 0, 0, 0, 0, 0, 0, 0, 0, 0, 0, 1]⟩ := by decide +kernel
theorem num_big : numS ((⟨#[0, 0, 0, 0, 0, 0, 0, 0, 0, 0, 0, 0, 0, 0, 0, 0, 0, 0, 0, 0, 0, 0, 0, 0, 0, 0, 0, 0, 0, 0, 0, 0]⟩ : ByteArray) ++ (⟨#[1]⟩ : ByteArray)) = 115792089237316195423570985008687907853269984665640564039457584007913129639936 := by decide +kernel

set_option maxRecDepth 100000 in
set_option maxHeartbeats 4000000 in
theorem parts_walk (s : ByteArray) (w : World) (hord : Ord w) : Calls Tryd.prog 6 #[.string s] w fun e w' => e = .returned (.bool true) ∧ Touch [] w w' := by
  obtain ⟨A, hA⟩ : ∃ n, n = numS s % ell := ⟨_, rfl⟩
  obtain ⟨B, hB⟩ := big_cut
  have lA : A < ell := hA ▸ mod_ell _
  have lB : B < ell := hB ▸ mod_ell _
  have cs := Lib.hid (cuL s A hA.symm)
  have ct := Lib.hid (cuL (cutT s 64) A (by rw [numS_cutT, hA]))
  have cb := Lib.hid (cuL ((⟨#[0, 0, 0, 0, 0, 0, 0, 0, 0, 0, 0, 0, 0, 0, 0, 0, 0, 0, 0, 0, 0, 0, 0, 0, 0, 0, 0, 0, 0, 0, 0, 0]⟩ : ByteArray) ++ (⟨#[1]⟩ : ByteArray)) B (by rw [num_big, hB]))
  have mm := Lib.hid (maL (fromT (cutT s 64) 32) (toS B) (cutT (cutT s 64) 32) _ B _ A rfl (low_toS lB) rfl (by rw [hA, hB, parts_sum s, Nat.add_mod, Nat.mul_mod_mod, ← Nat.add_mod]))
  have hz := Lib.hid (toS_size A)
  have hsT := cutT_size s 64
  have hcl := fun (h : s.size ≤ 64) => cutT_le h
  have hcg := fun (h : 64 < s.size) => cutT_gt h
  obtain ⟨t, ht⟩ : ∃ t, t = cutT s 64 := ⟨_, rfl⟩
  rw [← ht] at ct mm hsT hcl hcg
  clear ht hA hB lA lB
  have hTl := Lib.hid (fun (h : t.size ≤ 32) => cutT_le h)
  have hTg := Lib.hid (fun (h : 32 < t.size) => cutT_gt h)
  have hUn := Lib.hid (fun (h : t.size ≤ 32) => fromT_none h)
  have hUe := Lib.hid (show fromT t 32 = t.extract 32 t.size from rfl)
  obtain ⟨lo, hlo⟩ : ∃ x, x = cutT t 32 := ⟨_, rfl⟩
  obtain ⟨hi, hhi⟩ : ∃ x, x = fromT t 32 := ⟨_, rfl⟩
  rw [← hlo] at mm hTl hTg
  rw [← hhi] at mm hUn hUe
  clear hlo hhi
  have Hcl := Lib.hid hcl
  have Hcg := Lib.hid hcg
  have HsT := Lib.hid hsT
  clear hcl hcg hsT
  have T := Lib.hid (Touch.refl [] w)
  have Hord := Lib.hid hord
  clear hord
  go_enter Tryd.func6, Tryd.ntmps6
  go_upto_region 1 with fail
  go_cut [3] (fun v wx => v = .string t ∧ w = wx)
  case first =>
    go_wp2_with fail
    all_goals go_meet
    · have h : (64 : Int) < s.size := by assumption
      exact ⟨by rw [Hcg.out (by omega)], rfl⟩
    · have h : (s.size : Int) ≤ 64 := by assumption
      exact ⟨by rw [Hcl.out (by omega)], rfl⟩
  case rest =>
    obtain ⟨rfl, rfl⟩ := hcut
    go_upto_region 2 with fail
    go_cut [4, 5] (fun v u wx => v = .string lo ∧ u = .string ⟨#[]⟩ ∧ w = wx)
    case first =>
      go_wp2_with fail
      all_goals go_meet
      · have h : (32 : Int) < t.size := by assumption
        exact ⟨by rw [hTg.out (by omega)], rfl, rfl⟩
      · have h : (t.size : Int) ≤ 32 := by assumption
        exact ⟨by rw [hTl.out (by omega)], rfl, rfl⟩
    case rest =>
      obtain ⟨rfl, rfl, rfl⟩ := hcut
      go_upto_if 19 with fail
      go_cut [5] (fun v wx => v = .string hi ∧ w = wx)
      case first =>
        go_wp2_with fail
        all_goals go_meet
        · exact ⟨by rw [hUe.out], rfl⟩
        · have h : (t.size : Int) ≤ 32 := by assumption
          exact ⟨by rw [hUn.out (by omega)], rfl⟩
      case rest =>
        obtain ⟨rfl, rfl⟩ := hcut
        go_wp2_with fail
        refine (zero_any _).mono ?_
        rintro e wz ⟨rfl, rfl⟩
        go_wp2_with fail
        refine (cb.out _ (Hord.out.touch T.out)).mono ?_
        rintro e wz ⟨rfl, ht⟩
        replace T := Lib.hid (T.out.trans ht)
        clear ht
        go_wp2_with fail
        refine (cs.out _ (Hord.out.touch T.out)).mono ?_
        rintro e wz ⟨rfl, ht⟩
        replace T := Lib.hid (T.out.trans ht)
        clear ht
        go_wp2_with fail
        refine (mm.out _ (Hord.out.touch T.out)).mono ?_
        rintro e wz ⟨rfl, ht⟩
        replace T := Lib.hid (T.out.trans ht)
        clear ht
        go_wp2_with fail
        refine (ct.out _ (Hord.out.touch T.out)).mono ?_
        rintro e wz ⟨rfl, ht⟩
        replace T := Lib.hid (T.out.trans ht)
        clear ht
        go_wp2_with fail
        refine (cs.out _ (Hord.out.touch T.out)).mono ?_
        rintro e wz ⟨rfl, ht⟩
        replace T := Lib.hid (T.out.trans ht)
        clear ht
        go_wp2_with fail
        refine (cs.out _ (Hord.out.touch T.out)).mono ?_
        rintro e wz ⟨rfl, ht⟩
        replace T := Lib.hid (T.out.trans ht)
        clear ht
        go_wp2_with fail
        refine (fixed_any _ (Hord.out.touch T.out)).mono ?_
        rintro e wz ⟨rfl, ht⟩
        replace T := Lib.hid (T.out.trans ht)
        clear ht
        go_wp2_with fail
        go_ret
        exact ⟨rfl, T.out⟩
end Go.Proofs.YtcnmpflbmnnkbaaDoor
