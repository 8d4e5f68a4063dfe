/- wide.big: the number of 8 bytes. -/
import Derived.Test.YtflpjnillfgghaaDoorWdSmall
namespace Go.Proofs.YtflpjnillfgghaaDoor
open Go Go.RowKit
theorem bytes_cellsW (w : World) (e : TypeId) (t : ByteArray) (c j : Nat) (hj : j < t.size) :
    (w.drew.alloc (.cells (bytesRow t c) e ((bytesRow t c).size, (bytesRow t c).size + 1))).cell? ⟨w.heap.size, j, none⟩ = some (.int .u8 (((bl t).getD j 0 : Nat) : Int)) := by
  have hj' : j < t.data.size := hj
  refine (World.cell?_alloc_mark w.drew (bytesRow t c) e ((bytesRow t c).size, (bytesRow t c).size + 1) j).trans ?_
  rw [bytesRow_at t c j hj']
  have hj2 : j < t.data.toList.length := by simpa using hj'
  simp only [bl, List.getD, List.getElem?_map, List.getElem?_eq_getElem hj2]
  simp
theorem beS_take {l : List Nat} {k : Nat} (hk : k < l.length) : beS (l.take (k + 1)) = orr (beS (l.take k) * 256 % 18446744073709551616) (l.getD k 0) := by
  unfold beS
  rw [← List.take_append_getElem hk, List.foldl_append]
  simp [List.getD, hk]
set_option maxRecDepth 100000 in
set_option maxHeartbeats 1000000 in
theorem big_any (s : ByteArray) (hs8 : s.size = 8) (w : World) :
    Calls Tryd.prog 27 #[.string s] w fun e w' => e = .returned (.int .u64 ((beS (bl s) : Nat) : Int)) ∧ Touch [] w w' := by
  have hcv := run_bytes_of_string (P := Tryd.prog) w 9 28 5 s Tryd.underlying9 Tryd.underlying28 Tryd.underlying5
  have hcell := bytes_cellsW w 5 s (grownCap w s.size 0 5)
  obtain ⟨c, hcap⟩ : ∃ c, c = grownCap w s.size 0 5 := ⟨_, rfl⟩
  rw [← hcap] at hcv hcell
  obtain ⟨W1, hW1⟩ : ∃ W1, W1 = w.drew.alloc (.cells (bytesRow s c) 5 ((bytesRow s c).size, (bytesRow s c).size + 1)) := ⟨_, rfl⟩
  rw [← hW1] at hcv hcell
  have HT := Lib.hid (show Touch [] w W1 by rw [hW1]; exact (Touch.refl [] w).drew.alloc _)
  have Hcell := Lib.hid hcell
  rw [hs8] at hcv
  have Hs := Lib.hid hs8
  clear hW1 hcap hcell hs8
  go_enter Tryd.func27, Tryd.ntmps27
  go_wp2_with fail
  go_loopw [3, 9] (fun vn vk wr => ∃ k : Nat, k ≤ 8 ∧ vk = .int .i64 k ∧ vn = .int .u64 ((beS ((bl s).take k) : Nat) : Int) ∧ W1 = wr) (fun _ vk _ => 8 - (intOf vk).toNat)
  case atStart => exact ⟨0, by omega, rfl, rfl, rfl⟩
  case round =>
    obtain ⟨k, hk, rfl, rfl, rfl⟩ := hrel
    by_cases hk8 : k < 8
    · have hc := Hcell.out k (by rw [Hs.out]; exact hk8)
      have Hst := Lib.hid (beS_take (l := bl s) (k := k) (by rw [bl_len, Hs.out]; exact hk8))
      obtain ⟨b, hbe⟩ : ∃ b, b = (bl s).getD k 0 := ⟨_, rfl⟩
      obtain ⟨x, hx⟩ : ∃ x, x = beS ((bl s).take k) := ⟨_, rfl⟩
      have hb : b < 256 := by
        rw [hbe, List.getD, List.getElem?_eq_getElem (show k < (bl s).length by rw [bl_len, Hs.out]; exact hk8)]
        exact bl_lt s _ (List.getElem_mem _)
      rw [← hbe] at hc Hst
      rw [← hx] at Hst ⊢
      clear hbe hx hcv
      go_wp2_with fail
      go_roundw
      case rel =>
        refine ⟨k + 1, by omega, by go_num, ?_, trivial⟩
        rw [Hst.out]
        have h1 := shl_c x 8
        rw [show (2 : Int) ^ 8 = 256 by decide, show (2 : Nat) ^ 8 = 256 by decide] at h1
        rw [h1, or_c]
      case measure => simp [intOf]; omega
    · obtain rfl : k = 8 := by omega
      have He := Lib.hid (show (bl s).take 8 = bl s from List.take_of_length_le (by rw [bl_len, Hs.out]; omega))
      clear hcv
      go_wp2_with fail
      go_ret
      exact ⟨ret_int (by rw [He.out]), HT.out⟩
end Go.Proofs.YtflpjnillfgghaaDoor
