/- The document's powers modulo p, the inverse, the root. -/
import Derived.Test.YtbchjefgfghjlaaRefFj
import Derived.Test.YtbchjefgfghjlaaFField
namespace Go.Proofs.Ytbchjefgfghjlaa
open Go.RowKit
theorem and_1 : ∀ y : Fin 256, bits .and .u8 (y.val : Int) 1 = ((y.val % 2 : Nat) : Int) := by decide +kernel
theorem bit_modE (M r : Nat) (hr : r < 8) : M % 256 / 2 ^ r % 2 = M / 2 ^ r % 2 := by
  have h : r = 0 ∨ r = 1 ∨ r = 2 ∨ r = 3 ∨ r = 4 ∨ r = 5 ∨ r = 6 ∨ r = 7 := by omega
  rcases h with rfl | rfl | rfl | rfl | rfl | rfl | rfl | rfl <;> simp only [Nat.reducePow] <;> omega
theorem leN_atE {l : List Nat} (h : ∀ b ∈ l, b < 256) (i : Nat) (hi : i < l.length) : l.getD i 0 = leN l / 2 ^ (8 * i) % 256 := by
  have h1 := byN_at l.length (leN l) i hi
  rw [byN_leN h] at h1
  simp [List.getD, h1]
theorem bit_at {l : List Nat} (h : ∀ b ∈ l, b < 256) (j : Nat) (hj : j / 8 < l.length) : l.getD (j / 8) 0 / 2 ^ (j % 8) % 2 = leN l / 2 ^ j % 2 := by
  rw [leN_atE h _ hj, bit_modE _ _ (Nat.mod_lt _ (by decide)), Nat.div_div_eq_div_mul, ← Nat.pow_add]
  congr 3
  omega
/-- A power, modulo p. -/
def pN (x q : Nat) : Nat := x ^ q % PP
theorem pN_lt (x q : Nat) : pN x q < PP := Nat.mod_lt _ PP_pos
theorem pN_sq (x q : Nat) : mulF (pN x q) (pN x q) = pN x (2 * q) := by
  unfold pN
  rw [mulF_mod_left, mulF_mod_right, Nat.two_mul, Nat.pow_add]
  rfl
theorem pN_more (x q : Nat) : mulF (pN x q) x = pN x (q + 1) := by
  unfold pN
  rw [mulF_mod_left, Nat.pow_succ]
  rfl
theorem pN_zero (x : Nat) : pN x 0 = 1 := by
  unfold pN
  rw [Nat.pow_zero]
  decide
theorem half_step (N j : Nat) : N / 2 ^ j = 2 * (N / 2 ^ (j + 1)) + N / 2 ^ j % 2 := by
  rw [Nat.pow_succ, ← Nat.div_div_eq_div_mul]
  omega
set_option maxRecDepth 100000 in
set_option maxHeartbeats 2000000 in
theorem refPow_any {x : Nat} (hx : x < PP) (E : List Nat) (hE : ∀ b ∈ E, b < 256) (hl : E.length = 32) (w : World) :
    Calls Try.prog 42 #[.string (toS x), .string (strOfNums (E.map fun (n : Nat) => (n : Int)))] w fun e w' => e = .returned (.string (toS (pN x (leN E)))) ∧ Touch [] w w' := by
  have hbl : bl (strOfNums (E.map fun (n : Nat) => (n : Int))) = E := bl_strOfNums _ hE
  obtain ⟨e, he⟩ : ∃ e, e = strOfNums (E.map fun (n : Nat) => (n : Int)) := ⟨_, rfl⟩
  rw [← he] at hbl ⊢
  have hes : e.size = 32 := by rw [← bl_len, hbl, hl]
  have HE := Lib.hid hE
  have HL := Lib.hid hl
  have HB := Lib.hid hbl
  have Hes := Lib.hid hes
  have hN : leN E < 2 ^ 256 := by have := leN_lt hE; rw [hl] at this; exact Nat.lt_of_lt_of_le this (by decide)
  obtain ⟨N, hNe⟩ : ∃ N, N = leN E := ⟨_, rfl⟩
  have HN := Lib.hid hNe
  rw [← hNe] at hN ⊢
  have H1 := Lib.hid (fun W => refNum_any 1 (by decide) W)
  have Hsq := Lib.hid (fun q W => pN_sq x q ▸ refMul_toS (pN_lt x q) (pN_lt x q) W)
  have Hmo := Lib.hid (fun q W => pN_more x q ▸ refMul_toS (pN_lt x q) hx W)
  have Hfs := Lib.hid (fun j => half_step N j)
  have H0 := Lib.hid (show toS (1 % PP) = toS (pN x (N / 2 ^ 256)) by rw [Nat.div_eq_of_lt hN, pN_zero, (by decide : 1 % PP = 1)])
  have Hfin := Lib.hid (show pN x (N / 2 ^ 0) = pN x N by rw [Nat.pow_zero, Nat.div_one])
  obtain ⟨s, hs⟩ : ∃ s, s = toS x := ⟨_, rfl⟩
  rw [← hs] at Hmo ⊢
  clear he hbl hes hE hl hN hNe hx hs
  have hes2 : e.size = 32 := Hes.out
  go_enter Try.func42, Try.ntmps42
  go_wp2_with fail
  refine (H1.out _).mono ?_
  rintro _ w1 ⟨rfl, ht1⟩
  have Ht1 := Lib.hid ht1
  rw [H0.out]
  clear ht1 H1 H0
  go_wp2_with fail
  go_loopw [5, 6] (fun vc vi wr => ∃ k : Nat, k ≤ 256 ∧ vi = .int .i64 ((k : Int) - 1) ∧ vc = .string (toS (pN x (N / 2 ^ k))) ∧ Touch [] w wr) (fun _ vi _ => (intOf vi + 1).toNat)
  case atStart => exact ⟨256, by omega, rfl, rfl, Ht1.out⟩
  case round =>
    clear Ht1
    obtain ⟨k, hk, rfl, rfl, hT⟩ := hrel
    have HT := Lib.hid hT
    clear hT
    rcases k with _ | j
    · rw [Hfin.out, show (((0 : Nat) : Int) - 1) = -1 by omega]
      go_wp2_with fail
      go_ret
      exact ⟨rfl, HT.out⟩
    · rw [show (((j + 1 : Nat) : Int) - 1) = (j : Int) by omega]
      have hf := Hfs.out j
      have hsq := Hsq.out (N / 2 ^ (j + 1))
      have hbit := bit_at HE.out j (by rw [HL.out]; omega)
      rw [← HN.out] at hbit
      have hix := index_blE e ((j : Int) / 8) (j / 8) (by omega) (by rw [Hes.out]; omega)
      rw [HB.out] at hix
      have hbb := getD_lt HE.out (j / 8)
      obtain ⟨y, hy⟩ : ∃ y, y = E.getD (j / 8) 0 := ⟨_, rfl⟩
      rw [← hy] at hix hbit hbb
      have hand := and_1 ⟨y / 2 ^ (j % 8), Nat.lt_of_le_of_lt (Nat.div_le_self _ _) hbb⟩
      have e7 : ((y / 2 ^ (j % 8) : Nat) : Int) = (y : Int) / 2 ^ (j % 8) := by simp
      simp only [e7] at hand
      rw [hbit] at hand
      obtain ⟨q, hq⟩ : ∃ q, q = N / 2 ^ (j + 1) := ⟨_, rfl⟩
      obtain ⟨b, hb⟩ : ∃ b, b = N / 2 ^ j % 2 := ⟨_, rfl⟩
      rw [← hq] at hsq hf ⊢
      rw [← hb] at hand hf
      have hb2 : b = 0 ∨ b = 1 := by omega
      have Hsq2 := Lib.hid hsq
      have Hf := Lib.hid hf
      have hmo := Lib.hid (Hmo.out (2 * q))
      clear hq hb hy hbit hsq hf e7
      go_wp2_with fail
      refine (Hsq2.out _).mono ?_
      rintro _ w2 ⟨rfl, ht2⟩
      have HT2 := Lib.hid (HT.out.trans ht2)
      clear ht2 HT
      rcases hb2 with rfl | rfl
      · have HR := Lib.hid (show pN x (2 * q) = pN x (N / 2 ^ j) by rw [Hf.out, Nat.add_zero])
        rw [HR.out] at hmo ⊢
        go_wp2_with fail
        go_roundw
        case rel => exact ⟨j, by omega, rfl, rfl, HT2.out⟩
        case measure => simp [intOf]
      · have HR := Lib.hid (show pN x (2 * q + 1) = pN x (N / 2 ^ j) by rw [Hf.out])
        rw [HR.out] at hmo
        go_wp2_with fail
        refine (hmo.out _).mono ?_
        rintro _ w3 ⟨rfl, ht3⟩
        have HT3 := Lib.hid (HT2.out.trans ht3)
        clear ht3
        go_wp2_with fail
        go_roundw
        case rel => exact ⟨j, by omega, rfl, rfl, HT3.out⟩
        case measure => simp [intOf]
end Go.Proofs.Ytbchjefgfghjlaa
