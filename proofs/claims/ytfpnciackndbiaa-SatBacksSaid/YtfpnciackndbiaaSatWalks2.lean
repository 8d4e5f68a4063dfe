/- More statements of layer 1, walked: SatBacks, SatCuts. -/
import Derived.Test.YtfpnciackndbiaaFixed01
import Derived.Deep.DeepCutAuto
import Derived.Deep.QuietTactic
import Derived.RegionTactic
namespace Go.Proofs.Ytfpnciackndbiaa
open Go.RowKit
theorem backS_rng {n k m : Int} (hn : 0 ≤ n) (hn' : n < 18446744073709551616) (hm : 0 ≤ m) (hm' : m < 18446744073709551616) : 0 ≤ backS n k m ∧ backS n k m ≤ m := by
  have h := dbl_rng hn hn' k.toNat
  unfold backS
  split <;> omega
theorem backS_next {n k m : Int} (hn : 0 ≤ n) (hn' : n < 18446744073709551616) (hm : 0 ≤ m) (hm' : m < 18446744073709551616) (hk : 0 ≤ k) :
    backS n (k + 1) m = if m < addS (backS n k m) (backS n k m) then m else addS (backS n k m) (backS n k m) := by
  have h := dbl_rng hn hn' k.toNat
  have h2 := addS_ge (n := dbl k.toNat n) (by omega) h.2
  have h3 := addS_ge hm hm'
  unfold backS
  rw [show (k + 1).toNat = k.toNat + 1 by omega, dbl_succ]
  by_cases hlt : dbl k.toNat n < m
  · rw [if_pos hlt]
    split <;> split <;> omega
  · rw [if_neg hlt, if_neg (by omega)]
    split <;> omega
theorem backS_zero {n m : Int} : backS n 0 m = if n < m then n else m := rfl

set_option maxRecDepth 100000 in
set_option maxHeartbeats 1000000 in
theorem backs_walk (n m k : Int) (hn : 0 ≤ n) (hn' : n < 18446744073709551616) (hm : 0 ≤ m) (hm' : m < 18446744073709551616) (hk : 0 ≤ k) (hk' : k < 256) (w : World) :
    Calls Try.prog 6 #[.int .u64 n, .int .u64 m, .int .u8 k] w fun e w' => e = .returned (.bool true) ∧ Touch [] w w' := by
  have ha := backS_rng (k := k % 100) hn hn' hm hm'
  have hb := backS_rng (k := k % 100 + 1) hn hn' hm hm'
  have hnx := backS_next (k := k % 100) hn hn' hm hm' (by omega)
  have c1 := fun W => satBack_any n (k % 100) m hn hn' (by omega) (by omega) hm hm' W
  have c2 := fun W => satBack_any n (k % 100 + 1) m hn hn' (by omega) (by omega) hm hm' W
  have c3 := fun W => satBack_any n 0 m hn hn' (by omega) (by omega) hm hm' W
  rw [backS_zero] at c3
  obtain ⟨a, hae⟩ : ∃ a, a = backS n (k % 100) m := ⟨_, rfl⟩
  obtain ⟨b, hbe⟩ : ∃ b, b = backS n (k % 100 + 1) m := ⟨_, rfl⟩
  rw [← hae] at ha hnx c1
  rw [← hbe] at hb hnx c2
  clear hae hbe
  have c4 := fun W => satAdd_any a a (by omega) (by omega) (by omega) (by omega) W
  have hge := addS_ge (n := a) (by omega) (by omega)
  have hrg := addS_rng (x := a) (y := a) (by omega) (by omega)
  obtain ⟨d, hd⟩ : ∃ d, d = addS a a := ⟨_, rfl⟩
  rw [← hd] at c4 hnx hge hrg
  clear hd
  have hab : a ≤ b := by rw [hnx]; split <;> omega
  obtain ⟨z, hz⟩ : ∃ z, z = if n < m then n else m := ⟨_, rfl⟩
  rw [← hz] at c3
  have Hz := Lib.hid hz; clear hz
  have Hnx := Lib.hid hnx; clear hnx
  go_enter Try.func6, Try.ntmps6
  go_wp2_with fail
  refine (c1 _).mono ?_
  rintro e w' ⟨rfl, rfl⟩
  go_wp2_with fail
  refine (c2 _).mono ?_
  rintro e w' ⟨rfl, rfl⟩
  go_wp2_with fail
  refine (c4 _).mono ?_
  rintro e w' ⟨rfl, rfl⟩
  have hmin : b = d ∧ d ≤ m ∨ b = m ∧ m < d := by
    have := Hnx.out
    by_cases h : m < d
    · rw [if_pos h] at this; exact .inr ⟨this, h⟩
    · rw [if_neg h] at this; exact .inl ⟨this, by omega⟩
  have hzz : z = n ∧ n < m ∨ z = m ∧ m ≤ n := by
    have := Hz.out
    by_cases h : n < m
    · rw [if_pos h] at this; exact .inl ⟨this, h⟩
    · rw [if_neg h] at this; exact .inr ⟨this, by omega⟩
  clear Hnx Hz c1 c2 c4
  rcases hmin with ⟨rfl, hdm⟩ | ⟨rfl, hdm⟩ <;> rcases hzz with ⟨rfl, hnm⟩ | ⟨rfl, hnm⟩
  all_goals
    go_wp2_with fail
    all_goals
      refine (c3 _).mono ?_
      rintro e w' ⟨rfl, rfl⟩
      go_wp2_with fail
    all_goals
      refine (fixed_any _).mono ?_
      rintro e w' ⟨rfl, ht⟩
      go_wp2_with fail
      go_ret
      exact ⟨rfl, ht⟩

theorem cutS_rng {n lo hi : Int} (h : lo ≤ hi) : lo ≤ cutS n lo hi ∧ cutS n lo hi ≤ hi ∧ (lo ≤ n → n ≤ hi → cutS n lo hi = n) := by
  unfold cutS
  split <;> split <;> omega
theorem cutS_mono {n m lo hi : Int} (h : lo ≤ hi) (hnm : n ≤ m) : cutS n lo hi ≤ cutS m lo hi := by
  have e : ∀ a b : Int, (if b < a then b else a) ≤ a ∧ (if b < a then b else a) ≤ b ∧ ((if b < a then b else a) = a ∨ (if b < a then b else a) = b) := fun a b => by split <;> omega
  have e' : ∀ a b : Int, a ≤ (if a < b then b else a) ∧ b ≤ (if a < b then b else a) ∧ ((if a < b then b else a) = a ∨ (if a < b then b else a) = b) := fun a b => by split <;> omega
  unfold cutS
  have h1 := e' n lo
  have h2 := e' m lo
  have h3 := e (if n < lo then lo else n) hi
  have h4 := e (if m < lo then lo else m) hi
  omega
theorem cutS_same {n lo hi : Int} (h : lo ≤ n) (h' : n ≤ hi) : cutS n lo hi = n := by
  unfold cutS
  split <;> split <;> omega
theorem spreadS_le {s d : Int} (hs : 0 ≤ s) (hd : d < 18446744073709551616) : spreadS s d ≤ s := by
  unfold spreadS
  split
  · omega
  · have := Int.emod_lt_of_pos d (show 0 < s + 1 by omega)
    omega

set_option maxRecDepth 100000 in
set_option maxHeartbeats 1000000 in
theorem cuts_walk (n m x y : Int) (hn : 0 ≤ n) (hn' : n < 18446744073709551616) (hx : 0 ≤ x) (hx' : x < 18446744073709551616) (hy : 0 ≤ y) (hy' : y < 18446744073709551616) (w : World) :
    Calls Try.prog 5 #[.int .u64 n, .int .u64 m, .agg #[.int .u64 x, .int .u64 y]] w fun e w' => e = .returned (.bool true) ∧ Touch [] w w' := by
  have hb := Blk.new w 34 #[.int .u64 x, .int .u64 y]
  have hc0 : (w.alloc (.cells #[.int .u64 x, .int .u64 y] 34)).cell? ⟨w.heap.size, 0, none⟩ = some (.int .u64 x) := hb.cell 0
  have hc1 : (w.alloc (.cells #[.int .u64 x, .int .u64 y] 34)).cell? ⟨w.heap.size, 1, none⟩ = some (.int .u64 y) := hb.cell 1
  clear hb
  have ht0 : Touch [] w (w.alloc (.cells #[.int .u64 x, .int .u64 y] 34)) := (Touch.refl [] w).alloc _
  obtain ⟨lo, hlo⟩ : ∃ lo, lo = if y < x then y else x := ⟨_, rfl⟩
  obtain ⟨hi, hhi⟩ : ∃ hi, hi = if x < y then y else x := ⟨_, rfl⟩
  have hlh : lo ≤ hi := by rw [hlo, hhi]; split <;> omega
  have hlo0 : 0 ≤ lo := by rw [hlo]; split <;> omega
  have hlo1 : lo < 18446744073709551616 := by rw [hlo]; split <;> omega
  go_enter Try.func5, Try.ntmps5
  go_wp2_with fail
  obtain ⟨W1, hW1⟩ : ∃ W1, W1 = w.alloc (.cells #[.int .u64 x, .int .u64 y] 34) := ⟨_, rfl⟩
  rw [← hW1] at hc0 hc1 ht0 ⊢
  clear hW1
  have Hlo := Lib.hid hlo
  have Hhi := Lib.hid hhi
  clear hlo hhi
  go_quiet (fail)
  rw [← Hlo.out, ← Hhi.out]
  have ht1 := ht0.drewN nq
  clear ht0 hc0 hc1 Hlo Hhi
  have c1 := satCut_any n lo hi
  have c2 := satCut_any m lo hi
  have hr := cutS_rng (n := n) hlh
  have hmo := cutS_mono (n := n) (m := m) hlh
  have c3 := satCut_any (cutS n lo hi) lo hi
  rw [cutS_same hr.1 hr.2.1] at c3
  obtain ⟨a, ha⟩ : ∃ a, a = cutS n lo hi := ⟨_, rfl⟩
  obtain ⟨b, hb⟩ : ∃ b, b = cutS m lo hi := ⟨_, rfl⟩
  rw [← ha] at hr hmo c1 c3
  rw [← hb] at hmo c2
  clear ha hb
  have c4 := satSpread_any lo n hlo0 hlo1 hn hn'
  have hz := spreadS_le (s := lo) (d := n) hlo0 hn'
  obtain ⟨z, hze⟩ : ∃ z, z = spreadS lo n := ⟨_, rfl⟩
  rw [← hze] at hz c4
  clear hze
  have Hmo := Lib.hid hmo; clear hmo
  obtain ⟨hr1, hr2, hr3⟩ := hr
  have Hr3 := Lib.hid hr3; clear hr3
  go_wp2_with fail
  refine (c1 _).mono ?_
  rintro e w' ⟨rfl, rfl⟩
  go_wp2_with fail
  refine (c2 _).mono ?_
  rintro e w' ⟨rfl, rfl⟩
  have n1 : ¬ a < lo := by omega
  have n2 : ¬ hi < a := by omega
  by_cases hin : lo ≤ n ∧ n ≤ hi
  · obtain ⟨hin1, hin2⟩ := hin
    obtain rfl : a = n := Hr3.out hin1 hin2
    by_cases hnm : m < a
    · go_wp2_with fail
      refine (c3 _).mono ?_
      rintro e w' ⟨rfl, rfl⟩
      go_wp2_with fail
      refine (c4 _).mono ?_
      rintro e w' ⟨rfl, rfl⟩
      go_wp2_with fail
      refine (fixed_any _).mono ?_
      rintro e w' ⟨rfl, ht⟩
      go_wp2_with fail
      go_ret
      exact ⟨rfl, ht1.trans ht⟩
    · have hab : a ≤ b := Hmo.out (by omega)
      go_wp2_with fail
      refine (c3 _).mono ?_
      rintro e w' ⟨rfl, rfl⟩
      go_wp2_with fail
      refine (c4 _).mono ?_
      rintro e w' ⟨rfl, rfl⟩
      go_wp2_with fail
      refine (fixed_any _).mono ?_
      rintro e w' ⟨rfl, ht⟩
      go_wp2_with fail
      go_ret
      exact ⟨rfl, ht1.trans ht⟩
  · by_cases hnm : m < n
    · by_cases hln : lo ≤ n
      · have hhn : ¬ n ≤ hi := by omega
        go_wp2_with fail
        refine (c3 _).mono ?_
        rintro e w' ⟨rfl, rfl⟩
        go_wp2_with fail
        refine (c4 _).mono ?_
        rintro e w' ⟨rfl, rfl⟩
        go_wp2_with fail
        refine (fixed_any _).mono ?_
        rintro e w' ⟨rfl, ht⟩
        go_wp2_with fail
        go_ret
        exact ⟨rfl, ht1.trans ht⟩
      · go_wp2_with fail
        refine (c3 _).mono ?_
        rintro e w' ⟨rfl, rfl⟩
        go_wp2_with fail
        refine (c4 _).mono ?_
        rintro e w' ⟨rfl, rfl⟩
        go_wp2_with fail
        refine (fixed_any _).mono ?_
        rintro e w' ⟨rfl, ht⟩
        go_wp2_with fail
        go_ret
        exact ⟨rfl, ht1.trans ht⟩
    · have hab : a ≤ b := Hmo.out (by omega)
      by_cases hln : lo ≤ n
      · have hhn : ¬ n ≤ hi := by omega
        go_wp2_with fail
        refine (c3 _).mono ?_
        rintro e w' ⟨rfl, rfl⟩
        go_wp2_with fail
        refine (c4 _).mono ?_
        rintro e w' ⟨rfl, rfl⟩
        go_wp2_with fail
        refine (fixed_any _).mono ?_
        rintro e w' ⟨rfl, ht⟩
        go_wp2_with fail
        go_ret
        exact ⟨rfl, ht1.trans ht⟩
      · go_wp2_with fail
        refine (c3 _).mono ?_
        rintro e w' ⟨rfl, rfl⟩
        go_wp2_with fail
        refine (c4 _).mono ?_
        rintro e w' ⟨rfl, rfl⟩
        go_wp2_with fail
        refine (fixed_any _).mono ?_
        rintro e w' ⟨rfl, ht⟩
        go_wp2_with fail
        go_ret
        exact ⟨rfl, ht1.trans ht⟩
end Go.Proofs.Ytfpnciackndbiaa
