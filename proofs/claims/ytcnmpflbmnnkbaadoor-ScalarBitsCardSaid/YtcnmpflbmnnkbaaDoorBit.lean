/- scalar.Bit, zero. -/
import Derived.Test.YtcnmpflbmnnkbaaDoorNeg
namespace Go.Proofs.YtcnmpflbmnnkbaaDoor
open Go.RowKit
theorem and8_all : ∀ y : Fin 256, bits .and .u8 (y.val : Int) 1 = ((y.val % 2 : Nat) : Int) ∧ bits .and .u8 (y.val : Int) 248 = ((y.val - y.val % 8 : Nat) : Int) ∧ bits .or .u8 (bits .and .u8 (y.val : Int) 63) 64 = ((y.val % 64 + 64 : Nat) : Int) := by decide +kernel
theorem index_bl (s : ByteArray) (i : Int) (q : Nat) (hi : i = q) (hq : q < s.size) (W : World) :
    (Instr.index 9 (.string s) (.int .i64 i)).run Tryd.prog W = .ok (.int .u8 (((bl s).getD q 0 : Nat) : Int)) W := by
  subst hi
  rw [run_index_string W 9 s .i64 q Tryd.underlying9, dif_pos ⟨by omega, by omega⟩]
  have hq2 : q < s.data.toList.length := hq
  congr 2
  simp only [bl, List.getD, List.getElem?_map, List.getElem?_eq_getElem hq2]
  rfl
/-- A binary digit of a text. -/
def bitS (s : ByteArray) (i : Int) : Int := if i < 0 ∨ s.size ≤ i.toNat / 8 then 0 else (((bl s).getD (i.toNat / 8) 0 / 2 ^ (i.toNat % 8) % 2 : Nat) : Int)
set_option maxRecDepth 100000 in
theorem bit_any (s : ByteArray) (i : Int) (hi : i < 9223372036854775808) (w : World) :
    Calls Tryd.prog 19 #[.string s, .int .i64 i] w fun e w' => e = .returned (.int .i64 (bitS s i)) ∧ w = w' := by
  by_cases h0 : i < 0
  · have Hb : Hid (bitS s i = 0) := Lib.hid (by unfold bitS; rw [if_pos (.inl h0)])
    go_enter Tryd.func19, Tryd.ntmps19
    go_wp2_with fail
    go_ret
    exact ⟨ret_int Hb.out.symm, rfl⟩
  · obtain ⟨k, rfl⟩ : ∃ k : Nat, i = k := ⟨i.toNat, by omega⟩
    by_cases hk : s.size ≤ k / 8
    · have Hb : Hid (bitS s k = 0) := Lib.hid (by unfold bitS; rw [if_pos (.inr (by simpa using hk))])
      have hk' : (s.size : Int) ≤ (k : Int) / 8 := by omega
      go_enter Tryd.func19, Tryd.ntmps19
      go_wp2_with fail
      go_ret
      exact ⟨ret_int Hb.out.symm, rfl⟩
    · have hkl : k / 8 < s.size := by omega
      have e5 : decide ((s.size : Int) ≤ (k : Int) / 8) = false := decide_eq_false (by omega)
      have e6 : decide ((k : Int) < 0) = false := decide_eq_false (by omega)
      have Hkl := Lib.hid hkl
      clear hk h0 hkl
      go_enter Tryd.func19, Tryd.ntmps19
      go_upto_region 3 with fail
      clear e5 e6
      have hix := index_bl s ((k : Int) / 8) (k / 8) (by omega) Hkl.out
      have hbl : (bl s).getD (k / 8) 0 < 256 := by
        have hil : k / 8 < (bl s).length := by rw [bl_len]; exact Hkl.out
        rw [List.getD, List.getElem?_eq_getElem hil]; exact bl_lt s _ (List.getElem_mem hil)
      have Hb : Hid (bitS s k = (((bl s).getD (k / 8) 0 / 2 ^ (k % 8) % 2 : Nat) : Int)) := Lib.hid (by unfold bitS; rw [if_neg (by have := Hkl.out; simp; omega)]; simp)
      obtain ⟨b, hb⟩ : ∃ b, b = (bl s).getD (k / 8) 0 := ⟨_, rfl⟩
      rw [← hb] at hix hbl Hb
      have hand := (and8_all ⟨b / 2 ^ (k % 8), Nat.lt_of_le_of_lt (Nat.div_le_self _ _) hbl⟩).1
      have e7 : ((b / 2 ^ (k % 8) : Nat) : Int) = (b : Int) / 2 ^ (k % 8) := by simp
      simp only [e7] at hand
      obtain ⟨c, hc⟩ : ∃ c, c = b / 2 ^ (k % 8) % 2 := ⟨_, rfl⟩
      have hc1 : c ≤ 1 := by omega
      rw [← hc] at hand Hb
      clear hb hc e7
      go_wp2_with fail
      go_ret
      exact ⟨ret_int Hb.out.symm, rfl⟩
end Go.Proofs.YtcnmpflbmnnkbaaDoor
