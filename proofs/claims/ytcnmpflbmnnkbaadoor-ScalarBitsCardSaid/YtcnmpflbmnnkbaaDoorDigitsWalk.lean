/- syngraphlaw05.ScalarDigits: the walk. -/
import Derived.Test.YtcnmpflbmnnkbaaDoorPartsWalk
namespace Go.Proofs.YtcnmpflbmnnkbaaDoor
open Go.RowKit
theorem bit_mod (M r : Nat) (hr : r < 8) : M % 256 / 2 ^ r % 2 = M / 2 ^ r % 2 := by
  have h : r = 0 ∨ r = 1 ∨ r = 2 ∨ r = 3 ∨ r = 4 ∨ r = 5 ∨ r = 6 ∨ r = 7 := by omega
  rcases h with rfl | rfl | rfl | rfl | rfl | rfl | rfl | rfl <;> simp only [Nat.reducePow] <;> omega
theorem leN_at {l : List Nat} (h : ∀ b ∈ l, b < 256) (i : Nat) (hi : i < l.length) : l.getD i 0 = leN l / 2 ^ (8 * i) % 256 := by
  have h1 := byN_at l.length (leN l) i hi
  rw [byN_leN h] at h1
  simp [List.getD, h1]
theorem leN_small {l : List Nat} (h : ∀ b ∈ l, b < 256) (i : Nat) (hi : 8 * l.length ≤ i) : leN l / 2 ^ i = 0 := by
  have h1 := leN_lt h
  rw [show (256 : Nat) = 2 ^ 8 from rfl, ← Nat.pow_mul] at h1
  exact Nat.div_eq_of_lt (Nat.lt_of_lt_of_le h1 (Nat.pow_le_pow_right (by decide) hi))
theorem bit_num (t : ByteArray) (i : Nat) : bitS t (i : Int) = ((leN (bl t) / 2 ^ i % 2 : Nat) : Int) := by
  unfold bitS
  by_cases h : t.size ≤ i / 8
  · rw [if_pos (Or.inr (by simpa using h)), leN_small (bl_lt t) i (by rw [bl_len]; omega)]
    rfl
  · rw [if_neg (by simp; omega), Int.toNat_natCast, leN_at (bl_lt t) (i / 8) (by rw [bl_len]; omega), bit_mod _ _ (Nat.mod_lt _ (by decide)), Nat.div_div_eq_div_mul, ← Nat.pow_add]
    congr 4
    omega
theorem two_step (N j : Nat) : N / 2 ^ (j + 1) * 2 + N / 2 ^ j % 2 = N / 2 ^ j := by
  rw [Nat.pow_succ, ← Nat.div_div_eq_div_mul]
  omega
theorem low_two : lowS ⟨#[2]⟩ = 2 := by decide +kernel
theorem low_zero : lowS ⟨#[0]⟩ = 0 := by decide +kernel
theorem conv_one (d : Int) (W : World) : (convert 30 9 (.slice (some ⟨W.heap.size, 0, none⟩) 1 1)).run Tryd.prog (W.alloc (.cells #[.int .u8 d] 5)) = .ok (.string (strOfNums [d])) (W.alloc (.cells #[.int .u8 d] 5)) :=
  run_convert_bytes_arg (P := Tryd.prog) _ 30 5 Tryd.underlying30 Tryd.underlying5 W.heap.size 0 1 1 [d] rfl (fun i hi => by
    obtain rfl : i = 0 := by omega
    simp) 9 Tryd.underlying9
theorem conv_zero (W : World) : (convert 30 9 (.slice (some ⟨W.heap.size, 0, none⟩) 1 1)).run Tryd.prog (W.alloc (.cells #[.int .u8 0] 5)) = .ok (.string ⟨#[0]⟩) (W.alloc (.cells #[.int .u8 0] 5)) := by
  rw [conv_one, show strOfNums [0] = ⟨#[0]⟩ from by decide +kernel]
theorem conv_1 (W : World) : (convert 30 9 (.slice (some ⟨W.heap.size, 0, none⟩) 1 1)).run Tryd.prog (W.alloc (.cells #[.int .u8 1] 5)) = .ok (.string ⟨#[1]⟩) (W.alloc (.cells #[.int .u8 1] 5)) := by
  rw [conv_one, show strOfNums [1] = ⟨#[1]⟩ from by decide +kernel]
theorem step_mod (x d : Nat) : (x % ell * 2 + d) % ell = (x * 2 + d) % ell := by rw [Nat.add_mod, Nat.mod_mul_mod, ← Nat.add_mod]
def BiL (t : ByteArray) (N : Nat) : Prop := ∀ (j : Nat) (W : World), j < 9223372036854775808 → Calls Tryd.prog 19 #[.string t, .int .i64 (j : Int)] W fun e w' => e = .returned (.int .i64 ((N / 2 ^ j % 2 : Nat) : Int)) ∧ W = w'
theorem biL (t : ByteArray) : BiL t (leN (bl t)) := fun j W hj => by
  have h := bit_any t (j : Int) (by omega) W
  rw [bit_num] at h
  exact h
set_option maxRecDepth 100000 in
set_option maxHeartbeats 4000000 in
theorem digits_walk (s : ByteArray) (w : World) (hord : Ord w) : Calls Tryd.prog 7 #[.string s] w fun e w' => e = .returned (.bool true) ∧ Touch [] w w' := by
  have hcl := Lib.hid (fun (h : s.size ≤ 32) => cutT_le h)
  have hcg := Lib.hid (fun (h : 32 < s.size) => cutT_gt h)
  have hsz := cutT_size s 32
  obtain ⟨t, ht⟩ : ∃ t, t = cutT s 32 := ⟨_, rfl⟩
  rw [← ht] at hcl hcg hsz
  clear ht
  have hts : t.size ≤ 32 := by omega
  obtain ⟨N, hN⟩ : ∃ N, N = leN (bl t) := ⟨_, rfl⟩
  have hb := Lib.hid (hN ▸ biL t)
  have hc := Lib.hid (cuL t (N % ell) (by unfold numS; rw [List.take_of_length_le (by rw [bl_len]; omega), hN]))
  have h0 := Lib.hid (show N / 2 ^ 256 = 0 by rw [hN]; exact leN_small (bl_lt t) 256 (by rw [bl_len]; omega))
  have hend := Lib.hid (show N / 2 ^ (8 * t.size) = 0 by rw [hN]; exact leN_small (bl_lt t) (8 * t.size) (by rw [bl_len]; omega))
  clear hN hsz
  have T := Lib.hid (Touch.refl [] w)
  have Hord := Lib.hid hord
  clear hord
  go_enter Tryd.func7, Tryd.ntmps7
  go_upto_region 1 with fail
  go_cut [3] (fun v wx => v = .string t ∧ w = wx)
  case first =>
    go_wp2_with fail
    all_goals go_meet
    · have h : (32 : Int) < s.size := by assumption
      exact ⟨by rw [hcg.out (by omega)], rfl⟩
    · have h : (s.size : Int) ≤ 32 := by assumption
      exact ⟨by rw [hcl.out (by omega)], rfl⟩
  case rest =>
    obtain ⟨rfl, rfl⟩ := hcut
    go_wp2_with fail
    go_loopw [4, 5] (fun vs vi wr => ∃ (k : Nat) (S : ByteArray), k ≤ 256 ∧ vi = .int .i64 ((k : Int) - 1) ∧ vs = .string S ∧ lowS S = N / 2 ^ k % ell ∧ (k < 256 → S = toS (N / 2 ^ k % ell)) ∧ Touch [] w wr) (fun _ vi _ => (intOf vi + 1).toNat)
    case atStart => exact ⟨256, ⟨#[]⟩, by omega, rfl, rfl, by rw [h0.out, Nat.zero_mod]; exact low_none, fun h => by omega, T.out⟩
    case round =>
      obtain ⟨k, S, hk, rfl, rfl, hl, hS, hT⟩ := hrel
      have Hl := Lib.hid hl
      have HS := Lib.hid hS
      have HT := Lib.hid hT
      clear hl hS hT T
      rcases k with _ | j
      · rw [show (((0 : Nat) : Int) - 1) = -1 by omega]
        go_wp2_with fail
        refine (hc.out _ (Hord.out.touch HT.out)).mono ?_
        rintro e wz ⟨rfl, ht⟩
        have T := Lib.hid (HT.out.trans ht)
        clear ht
        have hS0 := HS.out (by omega)
        rw [Nat.pow_zero, Nat.div_one] at hS0
        rw [hS0]
        go_wp2_with fail
        refine (hb.out (8 * t.size) _ (by omega)).mono ?_
        rintro e wz2 ⟨rfl, rfl⟩
        rw [hend.out]
        go_wp2_with fail
        refine (fixed_any _ (Hord.out.touch T.out)).mono ?_
        rintro e wz3 ⟨rfl, ht⟩
        replace T := Lib.hid (T.out.trans ht)
        clear ht
        go_wp2_with fail
        go_ret
        exact ⟨rfl, T.out⟩
      · rw [show (((j + 1 : Nat) : Int) - 1) = (j : Int) by omega]
        go_wp2_with fail
        refine (hb.out j _ (by omega)).mono ?_
        rintro e wz ⟨rfl, rfl⟩
        have h2 := Lib.hid (two_step N j)
        have hd : N / 2 ^ j % 2 = 0 ∨ N / 2 ^ j % 2 = 1 := by omega
        rcases hd with hd | hd
        · rw [hd] at h2
          rw [hd]
          clear hd
          have hconv := conv_zero wr
          have hT1 := HT.out.alloc (.cells #[.int .u8 0] 5)
          go_wp2_with fail
          refine (maL S ⟨#[2]⟩ ⟨#[0]⟩ _ 2 0 (N / 2 ^ j % ell) Hl.out low_two low_zero (by rw [← h2.out]; exact step_mod _ _) _ (Hord.out.touch hT1)).mono ?_
          rintro e wz ⟨rfl, ht⟩
          have T := Lib.hid (hT1.trans ht)
          clear ht
          go_wp2_with fail
          go_roundw
          case rel => exact ⟨j, toS (N / 2 ^ j % ell), by omega, by go_num, rfl, low_toS (mod_ell _), fun _ => rfl, T.out⟩
          case measure => simp [intOf]
        · rw [hd] at h2
          rw [hd]
          clear hd
          have hconv := conv_1 wr
          have hT1 := HT.out.alloc (.cells #[.int .u8 1] 5)
          go_wp2_with fail
          refine (maL S ⟨#[2]⟩ ⟨#[1]⟩ _ 2 1 (N / 2 ^ j % ell) Hl.out low_two low_one (by rw [← h2.out]; exact step_mod _ _) _ (Hord.out.touch hT1)).mono ?_
          rintro e wz ⟨rfl, ht⟩
          have T := Lib.hid (hT1.trans ht)
          clear ht
          go_wp2_with fail
          go_roundw
          case rel => exact ⟨j, toS (N / 2 ^ j % ell), by omega, by go_num, rfl, low_toS (mod_ell _), fun _ => rfl, T.out⟩
          case measure => simp [intOf]
end Go.Proofs.YtcnmpflbmnnkbaaDoor
