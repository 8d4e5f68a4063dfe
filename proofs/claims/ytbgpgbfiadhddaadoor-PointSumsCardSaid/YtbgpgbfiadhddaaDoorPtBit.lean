/- The binary digits of a text. -/
import Derived.Test.YtbgpgbfiadhddaaDoorNum
import Derived.Test.YtbgpgbfiadhddaaDoorRows
import Derived.Test.YtbgpgbfiadhddaaDoorBytes
import Derived.Test.YtbgpgbfiadhddaaDoorGrow
import Derived.WalkKit
import Derived.WalkLawsBesides
import Derived.Lib.Hide
import Derived.Deep.QuietTactic
import Derived.BigQuiet
import Derived.Deep.RegionHeld3
import Derived.RegionTactic
import Derived.Deep.DeepCutAuto
import Derived.Deep.CutBlock
import Derived.Deep.LoopGhost
import Derived.Shelf.Spec.BitsCarry
import Derived.StillTailTactics
import Derived.Laws.CopyRow
import Derived.Lib.Strings
import Derived.Lib.LazyBuf
import Derived.Lib.BufferWrite
import Derived.BigRegion
namespace Go.Proofs.YtbgpgbfiadhddaaDoor
open Go Go.RowKit
/-! PtBit -/
theorem and8_all : ∀ y : Fin 256, bits .and .u8 (y.val : Int) 1 = ((y.val % 2 : Nat) : Int) ∧ bits .and .u8 (y.val : Int) 248 = ((y.val - y.val % 8 : Nat) : Int) ∧ bits .or .u8 (bits .and .u8 (y.val : Int) 63) 64 = ((y.val % 64 + 64 : Nat) : Int) := by decide +kernel
theorem index_bl (s : ByteArray) (i : Int) (q : Nat) (hi : i = q) (hq : q < s.size) (W : World) :
    (Instr.index 9 (.string s) (.int .i64 i)).run Tryd.prog W = .ok (.int .u8 (((bl s).getD q 0 : Nat) : Int)) W := by
  subst hi
  rw [run_index_string W 9 s .i64 q Tryd.underlying9, dif_pos ⟨by omega, by omega⟩]
  have hq2 : q < s.data.toList.length := hq
  congr 2
  simp only [bl, List.getD, List.getElem?_map, List.getElem?_eq_getElem hq2]
  rfl
/-- A binary digit of a text. -/
def bitS (s : ByteArray) (i : Int) : Int := if i < 0 ∨ s.size ≤ i.toNat / 8 then 0 else (((bl s).getD (i.toNat / 8) 0 / 2 ^ (i.toNat % 8) % 2 : Nat) : Int)
set_option maxRecDepth 100000 in
theorem bit_any (s : ByteArray) (i : Int) (hi : i < 9223372036854775808) (w : World) :
    Calls Tryd.prog 21 #[.string s, .int .i64 i] w fun e w' => e = .returned (.int .i64 (bitS s i)) ∧ w = w' := by
  by_cases h0 : i < 0
  · have Hb : Hid (bitS s i = 0) := Lib.hid (by unfold bitS; rw [if_pos (.inl h0)])
    go_enter Tryd.func21, Tryd.ntmps21
    go_wp2_with fail
    go_ret
    exact ⟨ret_int Hb.out.symm, rfl⟩
  · obtain ⟨k, rfl⟩ : ∃ k : Nat, i = k := ⟨i.toNat, by omega⟩
    by_cases hk : s.size ≤ k / 8
    · have Hb : Hid (bitS s k = 0) := Lib.hid (by unfold bitS; rw [if_pos (.inr (by simpa using hk))])
      have hk' : (s.size : Int) ≤ (k : Int) / 8 := by omega
      go_enter Tryd.func21, Tryd.ntmps21
      go_wp2_with fail
      go_ret
      exact ⟨ret_int Hb.out.symm, rfl⟩
    · have hkl : k / 8 < s.size := by omega
      have e5 : decide ((s.size : Int) ≤ (k : Int) / 8) = false := decide_eq_false (by omega)
      have e6 : decide ((k : Int) < 0) = false := decide_eq_false (by omega)
      have Hkl := Lib.hid hkl
      clear hk h0 hkl
      go_enter Tryd.func21, Tryd.ntmps21
      go_upto_region 3 with fail
      clear e5 e6
      have hix := index_bl s ((k : Int) / 8) (k / 8) (by omega) Hkl.out
      have hbl : (bl s).getD (k / 8) 0 < 256 := by
        have hil : k / 8 < (bl s).length := by rw [bl_len]; exact Hkl.out
        rw [List.getD, List.getElem?_eq_getElem hil]; exact bl_lt s _ (List.getElem_mem hil)
      have Hb : Hid (bitS s k = (((bl s).getD (k / 8) 0 / 2 ^ (k % 8) % 2 : Nat) : Int)) := Lib.hid (by unfold bitS; rw [if_neg (by have := Hkl.out; simp; omega)]; simp)
      obtain ⟨b, hb⟩ : ∃ b, b = (bl s).getD (k / 8) 0 := ⟨_, rfl⟩
      rw [← hb] at hix hbl Hb
      have hand := (and8_all ⟨b / 2 ^ (k % 8), Nat.lt_of_le_of_lt (Nat.div_le_self _ _) hbl⟩).1
      have e7 : ((b / 2 ^ (k % 8) : Nat) : Int) = (b : Int) / 2 ^ (k % 8) := by simp
      simp only [e7] at hand
      obtain ⟨c, hc⟩ : ∃ c, c = b / 2 ^ (k % 8) % 2 := ⟨_, rfl⟩
      have hc1 : c ≤ 1 := by omega
      rw [← hc] at hand Hb
      clear hb hc e7
      go_wp2_with fail
      go_ret
      exact ⟨ret_int Hb.out.symm, rfl⟩
theorem bit_mod (M r : Nat) (hr : r < 8) : M % 256 / 2 ^ r % 2 = M / 2 ^ r % 2 := by
  have h : r = 0 ∨ r = 1 ∨ r = 2 ∨ r = 3 ∨ r = 4 ∨ r = 5 ∨ r = 6 ∨ r = 7 := by omega
  rcases h with rfl | rfl | rfl | rfl | rfl | rfl | rfl | rfl <;> simp only [Nat.reducePow] <;> omega
theorem leN_at {l : List Nat} (h : ∀ b ∈ l, b < 256) (i : Nat) (hi : i < l.length) : l.getD i 0 = leN l / 2 ^ (8 * i) % 256 := by
  have h1 := byN_at l.length (leN l) i hi
  rw [byN_leN h] at h1
  simp [List.getD, h1]
theorem leN_small {l : List Nat} (h : ∀ b ∈ l, b < 256) (i : Nat) (hi : 8 * l.length ≤ i) : leN l / 2 ^ i = 0 := by
  have h1 := leN_lt h
  rw [show (256 : Nat) = 2 ^ 8 from rfl, ← Nat.pow_mul] at h1
  exact Nat.div_eq_of_lt (Nat.lt_of_lt_of_le h1 (Nat.pow_le_pow_right (by decide) hi))
theorem bit_num (t : ByteArray) (i : Nat) : bitS t (i : Int) = ((leN (bl t) / 2 ^ i % 2 : Nat) : Int) := by
  unfold bitS
  by_cases h : t.size ≤ i / 8
  · rw [if_pos (Or.inr (by simpa using h)), leN_small (bl_lt t) i (by rw [bl_len]; omega)]
    rfl
  · rw [if_neg (by simp; omega), Int.toNat_natCast, leN_at (bl_lt t) (i / 8) (by rw [bl_len]; omega), bit_mod _ _ (Nat.mod_lt _ (by decide)), Nat.div_div_eq_div_mul, ← Nat.pow_add]
    congr 4
    omega
theorem two_step (N j : Nat) : N / 2 ^ (j + 1) * 2 + N / 2 ^ j % 2 = N / 2 ^ j := by
  rw [Nat.pow_succ, ← Nat.div_div_eq_div_mul]
  omega
end Go.Proofs.YtbgpgbfiadhddaaDoor
