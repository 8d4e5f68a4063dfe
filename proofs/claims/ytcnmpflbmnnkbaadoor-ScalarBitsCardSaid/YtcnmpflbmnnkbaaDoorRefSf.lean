/- The document's Cut, Right, Neg, Bit. -/
import Derived.Test.YtcnmpflbmnnkbaaDoorRefSe
namespace Go.Proofs.YtcnmpflbmnnkbaaDoor
open Go.RowKit
set_option maxRecDepth 100000 in
theorem refCut_any (s : ByteArray) (w : World) :
    Calls Tryd.prog 12 #[.string s] w fun e w' => e = .returned (.string (toS (numS s % ell))) ∧ Touch [] w w' := by
  go_enter Tryd.func12, Tryd.ntmps12
  go_wp2_with fail
  refine (digits_64 s _).mono ?_
  rintro e w1 ⟨v, rfl, hn⟩
  obtain ⟨row, ho⟩ := hn.own
  have Hn := Lib.hid hn
  have Ho := Lib.hid ho
  clear hn ho
  go_wp2_with fail
  refine (mod_any v (padN (bl s) 64) row _ Ho.out (by rw [padN_len]; omega) (by rw [padN_len]; omega) (padN_lt (bl_lt s) 64)).mono ?_
  rintro e w2 ⟨rfl, ht⟩
  have Ht := Lib.hid ht
  clear ht
  go_wp2_with fail
  go_ret
  exact ⟨ret_eq (by rw [leN_padN]; rfl), Hn.out.touch.trans Ht.out⟩
theorem right_num {s : ByteArray} (h : s.size = 32) : decide (leN (padN (bl s) 32) < ell) = rightB s := by
  have e : numS s = leN (bl s) := by unfold numS; rw [List.take_of_length_le (by rw [bl_len]; omega)]
  have e2 : leN (padN (bl s) 32) = leN (bl s) := by rw [leN_padN, List.take_of_length_le (by rw [bl_len]; omega)]
  unfold rightB
  rw [e, e2]
  apply decide_eq_decide.2
  constructor
  · intro hlt
    exact ⟨h, by rw [Nat.mod_eq_of_lt hlt, toS_leN h]⟩
  · rintro ⟨_, hs⟩
    have h1 := congrArg (fun t => leN (bl t)) hs
    simp only [leN_toS] at h1
    rw [← h1]
    have := Nat.mod_lt (leN (bl s)) (show 0 < ell by decide)
    rw [Nat.mod_eq_of_lt (Nat.lt_trans this ell_lt)]
    exact this
set_option maxRecDepth 100000 in
theorem refRight_any (s : ByteArray) (w : World) :
    Calls Tryd.prog 10 #[.string s] w fun e w' => e = .returned (.bool (rightB s)) ∧ Touch [] w w' := by
  by_cases h32 : s.size = 32
  · have hb : ((s.size : Int) == 32) = true := by rw [h32]; rfl
    have Hq := Lib.hid (right_num h32)
    clear h32
    go_enter Tryd.func10, Tryd.ntmps10
    go_wp2_with fail
    refine (digits_32 s _).mono ?_
    rintro e w1 ⟨v, rfl, hn⟩
    obtain ⟨row, ho⟩ := hn.own
    have Hn := Lib.hid hn
    have Ho := Lib.hid ho
    clear hn ho
    go_wp2_with fail
    refine (below_any v (padN (bl s) 32) row _ Ho.out (by rw [padN_len]; omega) (by rw [padN_len]; omega) (padN_lt (bl_lt s) 32)).mono ?_
    rintro e w2 ⟨rfl, rfl⟩
    rw [Hq.out]
    go_wp2_with fail
    go_ret
    exact ⟨rfl, Hn.out.touch⟩
  · have hb : ((s.size : Int) == 32) = false := beq_false_of_ne (by omega)
    have Hq : Hid (rightB s = false) := Lib.hid (decide_eq_false (fun h => h32 h.1))
    clear h32
    go_enter Tryd.func10, Tryd.ntmps10
    go_wp2_with fail
    go_ret
    exact ⟨ret_bool Hq.out.symm, Touch.refl _ _⟩
@[local simp, local go_sem] theorem catM : ((⟨#[236]⟩ : ByteArray) ++ (⟨#[237, 211, 245, 92, 26, 99, 18, 88, 214, 156, 247, 162, 222, 249, 222, 20, 0, 0, 0, 0, 0, 0, 0, 0, 0, 0, 0, 0, 0, 0, 0, 16]⟩ : ByteArray).extract 1 32 : ByteArray) = toS (ell - 1) := by decide +kernel
theorem minus_any (w : World) : Calls Tryd.prog 32 #[] w fun e w' => e = .returned (.string (toS (ell - 1))) ∧ w = w' := by
  go_enter Tryd.func32, Tryd.ntmps32
  go_wp2_with fail
  refine (order_any _).mono ?_
  rintro e w1 ⟨rfl, rfl⟩
  go_wp2_with fail
  go_ret
  exact ⟨rfl, rfl⟩
theorem neg_num (n : Nat) : (n % ell * (ell - 1) + 0) % ell = negN n := by
  unfold negN
  have h := Nat.mod_lt n (show 0 < ell by decide)
  generalize n % ell = m at *
  rw [Nat.add_zero]
  rcases Nat.eq_zero_or_pos m with h0 | h0
  · subst h0; rw [Nat.zero_mul, Nat.sub_zero, Nat.mod_self, Nat.zero_mod]
  · have e : m * (ell - 1) = (ell - m) + ell * (m - 1) := by
      rw [Nat.mul_sub, Nat.mul_one, Nat.mul_sub, Nat.mul_one, Nat.mul_comm ell m]
      have : ell * 1 ≤ m * ell := by rw [Nat.mul_comm m]; exact Nat.mul_le_mul_left _ h0
      omega
    rw [e, Nat.add_mul_mod_self_left]
set_option maxRecDepth 100000 in
theorem refNeg_any (s : ByteArray) (w : World) :
    Calls Tryd.prog 16 #[.string s] w fun e w' => e = .returned (.string (toS (negN (numS s)))) ∧ Touch [] w w' := by
  have hn := Lib.hid (neg_num (numS s))
  have hl := Lib.hid (low_toS (mod_ell (numS s)))
  have hm := Lib.hid (low_toS (show ell - 1 < ell by decide))
  go_enter Tryd.func16, Tryd.ntmps16
  go_wp2_with fail
  refine (refCut_any s _).mono ?_
  rintro e w1 ⟨rfl, ht⟩
  have Ht := Lib.hid ht
  clear ht
  go_wp2_with fail
  refine (minus_any _).mono ?_
  rintro e w2 ⟨rfl, rfl⟩
  go_wp2_with fail
  refine (refMulAdd_any _ _ _ _).mono ?_
  rintro e w3 ⟨rfl, ht⟩
  have Ht2 := Lib.hid ht
  clear ht
  rw [hl.out, hm.out, low_none, hn.out]
  go_wp2_with fail
  go_ret
  exact ⟨rfl, Ht.out.trans Ht2.out⟩
def BitRel (b r : Nat) (vn vj : Value) : Prop := ∃ j : Nat, j ≤ r ∧ vj = .int .i64 j ∧ vn = .int .i64 ((b / 2 ^ j : Nat) : Int)
set_option maxRecDepth 100000 in
theorem refBit_any (s : ByteArray) (i : Int) (hi : i < 9223372036854775808) (w : World) :
    Calls Tryd.prog 20 #[.string s, .int .i64 i] w fun e w' => e = .returned (.int .i64 (bitS s i)) ∧ w = w' := by
  by_cases h0 : i < 0
  · have Hb : Hid (bitS s i = 0) := Lib.hid (by unfold bitS; rw [if_pos (.inl h0)])
    go_enter Tryd.func20, Tryd.ntmps20
    go_wp2_with fail
    go_ret
    exact ⟨ret_int Hb.out.symm, rfl⟩
  · obtain ⟨k, rfl⟩ : ∃ k : Nat, i = k := ⟨i.toNat, by omega⟩
    by_cases hk : s.size ≤ k / 8
    · have Hb : Hid (bitS s k = 0) := Lib.hid (by unfold bitS; rw [if_pos (.inr (by simpa using hk))])
      have hk' : (s.size : Int) ≤ (k : Int) / 8 := by omega
      go_enter Tryd.func20, Tryd.ntmps20
      go_wp2_with fail
      go_ret
      exact ⟨ret_int Hb.out.symm, rfl⟩
    · have hkl : k / 8 < s.size := by omega
      have e5 : decide ((s.size : Int) ≤ (k : Int) / 8) = false := decide_eq_false (by omega)
      have e6 : decide ((k : Int) < 0) = false := decide_eq_false (by omega)
      have Hkl := Lib.hid hkl
      clear hk h0 hkl
      go_enter Tryd.func20, Tryd.ntmps20
      go_upto_region 3 with fail
      clear e5 e6
      have hix := index_bl s ((k : Int) / 8) (k / 8) (by omega) Hkl.out
      have hbl : (bl s).getD (k / 8) 0 < 256 := getD_lt (bl_lt s) _
      have Hb : Hid (bitS s k = (((bl s).getD (k / 8) 0 / 2 ^ (k % 8) % 2 : Nat) : Int)) := Lib.hid (by unfold bitS; rw [if_neg (by have := Hkl.out; simp; omega)]; simp)
      obtain ⟨b, hb⟩ : ∃ b, b = (bl s).getD (k / 8) 0 := ⟨_, rfl⟩
      rw [← hb] at hix hbl Hb
      clear hb
      go_wp2_with fail
      clear hix
      obtain ⟨r, hr⟩ : ∃ r, r = k % 8 := ⟨_, rfl⟩
      have hr8 : r ≤ 7 := by omega
      have hkr : (k : Int) % 8 = (r : Int) := by omega
      rw [← hr] at Hb
      clear hr
      go_loopw [5, 6] (fun vn vj wx => BitRel b r vn vj ∧ w = wx) (fun _ vj _ => 8 - (intOf vj).toNat)
      case atStart => exact ⟨⟨0, by omega, rfl, by simp⟩, rfl⟩
      case round =>
        obtain ⟨⟨j, hj, rfl, rfl⟩, rfl⟩ := hrel
        have hd := Lib.hid (show b / 2 ^ (j + 1) = b / 2 ^ j / 2 by rw [Nat.pow_succ, Nat.div_div_eq_div_mul])
        have hbj : b / 2 ^ j ≤ b := Nat.div_le_self _ _
        obtain ⟨q, hq⟩ : ∃ q, q = b / 2 ^ j := ⟨_, rfl⟩
        rw [← hq] at hd hbj ⊢
        by_cases hlt : j < r
        · clear hq
          go_wp2_with fail
          go_roundw
          case rel => exact ⟨⟨j + 1, by omega, by go_num, by rw [hd.out, Int.natCast_ediv]; rfl⟩, trivial⟩
          case measure => simp [intOf]; omega
        · obtain rfl : j = r := by omega
          have Hq := Lib.hid hq
          clear hq hd
          go_wp2_with fail
          go_ret
          exact ⟨ret_int (by rw [Hb.out, ← Hq.out]; omega), rfl⟩
end Go.Proofs.YtcnmpflbmnnkbaaDoor
