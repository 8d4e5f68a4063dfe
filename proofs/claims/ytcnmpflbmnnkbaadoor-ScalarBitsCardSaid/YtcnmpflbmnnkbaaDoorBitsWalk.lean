/- syngraphlaw05.ScalarBits: the walk. -/
import Derived.Test.YtcnmpflbmnnkbaaDoorRefSg
import Derived.Test.YtcnmpflbmnnkbaaDoorRingBase
namespace Go.Proofs.YtcnmpflbmnnkbaaDoor
open Go.RowKit
def clS (s : ByteArray) : ByteArray := strOfNums ((clampL (bl s)).map fun (n : Nat) => (n : Int))
theorem bl_clS (s : ByteArray) : bl (clS s) = clampL (bl s) := bl_strOfNums _ (clampL_lt (bl_lt s))
theorem clS_size (s : ByteArray) : (clS s).size = 32 := by rw [← bl_len, bl_clS, clampL_len]
theorem clampL_at0 (l : List Nat) : (clampL l).getD 0 0 = (padN l 32).getD 0 0 - (padN l 32).getD 0 0 % 8 := by
  rw [clampL_eq, getN_set_ne (by omega), getN_set_self (by rw [padN_len]; omega)]
theorem clampL_at31 (l : List Nat) : (clampL l).getD 31 0 = (padN l 32).getD 31 0 % 64 + 64 := by
  rw [clampL_eq, getN_set_self (by rw [List.length_set, padN_len]; omega)]
theorem padN_self {l : List Nat} (h : l.length = 32) : padN l 32 = l := by unfold padN; rw [List.take_of_length_le (by omega), h]; simp
theorem set_getD {l : List Nat} {k x : Nat} (h : l.getD k 0 = x) (hk : k < l.length) : l.set k x = l := by
  apply List.ext_getElem?
  intro i
  by_cases hi : i = k
  · subst hi
    rw [List.getElem?_set_self hk, ← h]
    simp [List.getD, hk]
  · rw [List.getElem?_set_ne (Ne.symm hi)]
theorem clampL_clampL (l : List Nat) : clampL (clampL l) = clampL l := by
  rw [clampL_eq (clampL l), padN_self (clampL_len l)]
  have h0 := clampL_at0 l
  have h1 := clampL_at31 l
  rw [set_getD (l := clampL l) (k := 0) (by omega) (by rw [clampL_len]; omega), set_getD (by omega) (by rw [clampL_len]; omega)]
theorem clS_clS (s : ByteArray) : clS (clS s) = clS s := by unfold clS; rw [show bl (strOfNums ((clampL (bl s)).map fun (n : Nat) => (n : Int))) = clampL (bl s) from bl_clS s, clampL_clampL]
theorem bitS_at (s : ByteArray) (k : Nat) (h : k / 8 < s.size) : bitS s (k : Int) = (((bl s).getD (k / 8) 0 / 2 ^ (k % 8) % 2 : Nat) : Int) := by
  unfold bitS; rw [if_neg (by simp; omega)]; simp
theorem clS_254 (s : ByteArray) : bitS (clS s) 254 = 1 := by
  have h := bitS_at (clS s) 254 (by rw [clS_size]; omega)
  rw [bl_clS, show 254 / 8 = 31 from rfl, clampL_at31, show 2 ^ (254 % 8) = 64 from rfl] at h
  refine h.trans ?_
  have : ((padN (bl s) 32).getD 31 0 % 64 + 64) / 64 % 2 = 1 := by omega
  rw [this]; rfl
theorem clS_255 (s : ByteArray) : bitS (clS s) 255 = 0 := by
  have h := bitS_at (clS s) 255 (by rw [clS_size]; omega)
  rw [bl_clS, show 255 / 8 = 31 from rfl, clampL_at31, show 2 ^ (255 % 8) = 128 from rfl] at h
  refine h.trans ?_
  have : ((padN (bl s) 32).getD 31 0 % 64 + 64) / 128 % 2 = 0 := by omega
  rw [this]; rfl
theorem clS_low (s : ByteArray) (k : Nat) (hk : k < 3) : bitS (clS s) (k : Int) = 0 := by
  have h := bitS_at (clS s) k (by rw [clS_size]; omega)
  rw [bl_clS, show k / 8 = 0 by omega, clampL_at0] at h
  refine h.trans ?_
  have : ((padN (bl s) 32).getD 0 0 - (padN (bl s) 32).getD 0 0 % 8) / 2 ^ (k % 8) % 2 = 0 := by
    have e : 2 ^ (k % 8) = 1 ∨ 2 ^ (k % 8) = 2 ∨ 2 ^ (k % 8) = 4 := by rcases (show k = 0 ∨ k = 1 ∨ k = 2 by omega) with rfl | rfl | rfl <;> simp
    rcases e with e | e | e <;> rw [e] <;> omega
  rw [this]; rfl
theorem k1_any (s : ByteArray) (W : World) : Calls Tryd.prog 18 #[.string s] W fun e W' => e = .returned (.string (clS s)) ∧ Touch [] W W' := clamp_any s W
theorem k2_any (s : ByteArray) (W : World) : Calls Tryd.prog 21 #[.string s] W fun e W' => e = .returned (.string (clS s)) ∧ Touch [] W W' := refClamp_any s W
theorem k3_any (s : ByteArray) (W : World) : Calls Tryd.prog 18 #[.string (clS s)] W fun e W' => e = .returned (.string (clS s)) ∧ Touch [] W W' := by
  have h := k1_any (clS s) W
  rw [clS_clS] at h
  exact h
def BjL (s : ByteArray) (i v : Int) : Prop := ∀ W : World, Calls Tryd.prog 19 #[.string s, .int .i64 i] W fun e W' => e = .returned (.int .i64 v) ∧ W = W'
theorem bjL (s : ByteArray) (i v : Int) (hi : i < 9223372036854775808) (h : bitS s i = v) : BjL s i v := fun W => h ▸ bit_any s i hi W
set_option maxRecDepth 100000 in
set_option maxHeartbeats 400000 in
theorem bits_walk (s : ByteArray) (i : Int) (hi : i < 9223372036854775808) (w : World) (hord : Ord w) : Calls Tryd.prog 4 #[.string s, .int .i64 i] w fun e w' => e = .returned (.bool true) ∧ Touch [] w w' := by
  obtain ⟨v, hv⟩ : ∃ v, v = bitS s i := ⟨_, rfl⟩
  have b1 := Lib.hid (bjL s i v hi hv.symm)
  have b2 := Lib.hid (fun W : World => hv ▸ refBit_any s i hi W)
  have k1 := Lib.hid (k1_any s)
  have k2 := Lib.hid (k2_any s)
  have k3 := Lib.hid (k3_any s)
  have c1 := Lib.hid (bjL (clS s) 254 1 (by omega) (clS_254 s))
  have c2 := Lib.hid (bjL (clS s) 255 0 (by omega) (clS_255 s))
  have c3 := Lib.hid (bjL (clS s) 0 0 (by omega) (clS_low s 0 (by omega)))
  have c4 := Lib.hid (bjL (clS s) 1 0 (by omega) (clS_low s 1 (by omega)))
  have c5 := Lib.hid (bjL (clS s) 2 0 (by omega) (clS_low s 2 (by omega)))
  have hsz := clS_size s
  obtain ⟨K, hK⟩ : ∃ K, K = clS s := ⟨_, rfl⟩
  rw [← hK] at k1 k2 k3 c1 c2 c3 c4 c5 hsz
  clear hK hv
  have T := Lib.hid (Touch.refl [] w)
  have Hord := Lib.hid hord
  clear hord
  go_enter Tryd.func4, Tryd.ntmps4
  go_wp2_with fail
  refine (k1.out _).mono ?_
  rintro e wz ⟨rfl, ht⟩
  replace T := Lib.hid (T.out.trans ht)
  clear ht
  go_wp2_with fail
  refine (b1.out _).mono ?_
  rintro e wz ⟨rfl, rfl⟩
  go_wp2_with fail
  refine (b2.out _).mono ?_
  rintro e wz ⟨rfl, rfl⟩
  go_wp2_with fail
  refine (k2.out _).mono ?_
  rintro e wz ⟨rfl, ht⟩
  replace T := Lib.hid (T.out.trans ht)
  clear ht
  go_wp2_with fail
  refine (c1.out _).mono ?_
  rintro e wz ⟨rfl, rfl⟩
  go_wp2_with fail
  refine (c2.out _).mono ?_
  rintro e wz ⟨rfl, rfl⟩
  go_wp2_with fail
  refine (c3.out _).mono ?_
  rintro e wz ⟨rfl, rfl⟩
  go_wp2_with fail
  refine (c4.out _).mono ?_
  rintro e wz ⟨rfl, rfl⟩
  go_wp2_with fail
  refine (c5.out _).mono ?_
  rintro e wz ⟨rfl, rfl⟩
  go_wp2_with fail
  refine (k3.out _).mono ?_
  rintro e wz ⟨rfl, ht⟩
  replace T := Lib.hid (T.out.trans ht)
  clear ht
  go_wp2_with fail
  refine (fixed_any _ (Hord.out.touch T.out)).mono ?_
  rintro e wz ⟨rfl, ht⟩
  replace T := Lib.hid (T.out.trans ht)
  clear ht
  go_wp2_with fail
  go_ret
  exact ⟨rfl, T.out⟩
end Go.Proofs.YtcnmpflbmnnkbaaDoor
