/- (field.Elem).Odd, Zero; field.Num. -/
import Derived.Test.YtbgpgbfiadhddaaDoorSmallE
namespace Go.Proofs.YtbgpgbfiadhddaaDoor
open Go.RowKit
theorem index_blE (s : ByteArray) (i : Int) (q : Nat) (hi : i = q) (hq : q < s.size) (W : World) :
    (Instr.index 9 (.string s) (.int .i64 i)).run Tryd.prog W = .ok (.int .u8 (((bl s).getD q 0 : Nat) : Int)) W := by
  subst hi
  rw [run_index_string W 9 s .i64 q Tryd.underlying9, dif_pos ⟨by omega, by omega⟩]
  have hq2 : q < s.data.toList.length := hq
  congr 2
  simp only [bl, List.getD, List.getElem?_map, List.getElem?_eq_getElem hq2]
  rfl
theorem and8_1 : ∀ y : Fin 256, bits .and .u8 (y.val : Int) 1 = ((y.val % 2 : Nat) : Int) := by decide +kernel
theorem toS_at (n i : Nat) (hi : i < 32) : (bl (toS n)).getD i 0 = n / 2 ^ (8 * i) % 256 := by
  rw [bl_toS, List.getD, byN_at 32 n i hi]; rfl
set_option maxRecDepth 100000 in
theorem odd_any (l : List Int) (hl : Red l) (w : World) :
    Calls Tryd.prog 53 #[elV l] w fun e w' => e = .returned (.bool (decide (fe l % 2 = 1))) ∧ Touch [] w w' := by
  have Hl := Lib.hid hl
  have hix := Lib.hid (index_blE (toS (fe l)) 0 0 rfl (by rw [toS_size]; omega))
  rw [toS_at _ 0 (by omega)] at hix
  have hand := Lib.hid (and8_1 ⟨fe l / 2 ^ (8 * 0) % 256, by omega⟩)
  have hfin : Hid (((((fe l / 2 ^ (8 * 0) % 256) % 2 : Nat) : Int) == 1) = decide (fe l % 2 = 1)) := Lib.hid (by
    rw [Bool.eq_iff_iff, beq_iff_eq, decide_eq_true_eq]; simp; omega)
  obtain ⟨q, hq⟩ : ∃ q, q = fe l / 2 ^ (8 * 0) % 256 := ⟨_, rfl⟩
  rw [← hq] at hix hfin
  simp only [← hq] at hand
  clear hl hq
  unfold elV
  go_enter Tryd.func53, Tryd.ntmps53
  go_wp2_with (refine wpList_loadE rfl (.tmp 1) rfl _ rfl 25 l Hl.out.len (Blk.new _ _ _) ?_)
  refine (bytes_any l Hl.out _).mono ?_
  rintro e w5 ⟨rfl, hT⟩
  have HT := Lib.hid (((Touch.refl [] w).alloc (.cells (cellsZ l).toArray 25)).trans hT)
  have h1 := hix.out
  have h2 := hand.out
  obtain ⟨b, hb⟩ : ∃ b, b = q % 2 := ⟨_, rfl⟩
  rw [← hb] at h2 hfin
  clear hT hb hix hand
  go_wp2_with fail
  go_ret
  exact ⟨ret_bool hfin.out, HT.out⟩
set_option maxRecDepth 100000 in
theorem zero_anyE (l : List Int) (hl : Red l) (w : World) :
    Calls Tryd.prog 40 #[elV l] w fun e w' => e = .returned (.bool (decide (fe l = 0))) ∧ Touch [] w w' := by
  have Hl := Lib.hid hl
  have hs : ∀ W, Calls Tryd.prog 24 #[elV l, .agg #[.int .i64 0, .int .i64 0, .int .i64 0, .int .i64 0, .int .i64 0, .int .i64 0, .int .i64 0, .int .i64 0, .int .i64 0, .int .i64 0, .int .i64 0, .int .i64 0, .int .i64 0, .int .i64 0, .int .i64 0, .int .i64 0]] W fun e w' => e = .returned (.bool (decide (fe l = 0))) ∧ Touch [] W w' := fun W => by
    have h := same_any l (List.replicate 16 0) hl red0 W
    rw [elV0, fe0] at h
    exact h
  have Hs := Lib.hid hs
  clear hs hl
  unfold elV at Hs
  unfold elV
  go_enter Tryd.func40, Tryd.ntmps40
  go_wp2_with (refine wpList_loadE rfl (.tmp 1) rfl _ rfl 25 l Hl.out.len (Blk.new _ _ _) ?_)
  refine (Hs.out _).mono ?_
  rintro e w5 ⟨rfl, hT⟩
  have HT := Lib.hid (((Touch.refl [] w).alloc (.cells (cellsZ l).toArray 25)).trans hT)
  clear hT
  go_wp2_with fail
  go_ret
  exact ⟨rfl, HT.out⟩
/-- Digits of a small number. -/
structure NumA (n : Nat) (r : List Int) (k : Nat) : Prop where
  len : r.length = 16
  dig : Dig r
  val : vI r = ((n % 2 ^ (16 * k) : Nat) : Int)
  far : ∀ j, k ≤ j → r.getD j 0 = 0
theorem rep_getD (n j : Nat) : (List.replicate n (0 : Int)).getD j 0 = 0 := by
  rw [List.getD, List.getElem?_replicate]
  split <;> rfl
theorem NumA.start (n : Nat) : NumA n (List.replicate 16 0) 0 := ⟨by simp, fun x hx => by have := (List.mem_replicate.1 hx).2; omega, by simp [vI, Nat.mod_one], fun j _ => rep_getD 16 j⟩
theorem NumA.step {n k : Nat} {r : List Int} (h : NumA n r k) (hk : k < 16) {d : Nat} (hd : d = n / 2 ^ (16 * k) % 65536) : NumA n (r.set k (d : Int)) (k + 1) := by
  have h1 := h.len
  refine ⟨by simp [h1], fun x hx => ?_, ?_, fun j hj => by rw [getD_set_ne (by omega)]; exact h.far j (by omega)⟩
  · rcases List.mem_or_eq_of_mem_set hx with hx | rfl
    · exact h.dig x hx
    · omega
  · have e1 := vI_set (l := r) (k := k) (by omega) (d : Int)
    rw [h.far k (Nat.le_refl _), Int.mul_zero, Int.add_zero, h.val] at e1
    rw [e1, show 16 * (k + 1) = 16 * k + 16 by omega, Nat.pow_add, Nat.mod_mul, hd]
    have e2 : (65536 : Int) ^ k = ((2 ^ (16 * k) : Nat) : Int) := by
      rw [Nat.pow_mul]; simp
    rw [e2]
    simp
theorem NumA.red {n : Nat} {r : List Int} (h : NumA n r 4) (hn : n < 18446744073709551616) : Red r ∧ fe r = n % PP := by
  refine ⟨⟨h.len, fun x hx => by have := h.dig x hx; omega⟩, ?_⟩
  have e : 2 ^ (16 * 4) = 18446744073709551616 := by decide
  unfold fe
  rw [h.val, e, Nat.mod_eq_of_lt hn, fz_nat]
theorem and_65535 (y : Nat) (hy : y < 18446744073709551616) : bits .and .u64 (y : Int) 65535 = ((y % 65536 : Nat) : Int) := by
  have h := bits_and_u64_nat y 65535 hy (by omega)
  rw [show (65535 : Nat) = 2 ^ 16 - 1 by decide, Nat.and_two_pow_sub_one_eq_mod] at h
  exact h
set_option maxRecDepth 100000 in
set_option maxHeartbeats 1000000 in
theorem num_any (n : Nat) (hn : n < 18446744073709551616) (w : World) :
    Calls Tryd.prog 37 #[.int .u64 (n : Int)] w (EPost (n % PP) w) := by
  have Hn := Lib.hid hn
  clear hn
  go_enter Tryd.func37, Tryd.ntmps37
  go_upto_region 2 with fail
  rw [← zeroE_eq]
  obtain ⟨w1, hw1⟩ : ∃ w1, w1 = (w.alloc (.cells (cellsZ (List.replicate 16 0)).toArray 25)).alloc (.cells (cellsZ (List.replicate 16 0)).toArray 25) := ⟨_, rfl⟩
  obtain ⟨h1, h2, h3⟩ := box2 w (List.replicate 16 0)
  rw [← hw1] at h1 h2 h3 ⊢
  obtain ⟨ga, hga⟩ : ∃ ga, ga = w.heap.size := ⟨_, rfl⟩
  have Hga := Lib.hid (show w.heap.size ≤ ga by omega)
  rw [← hga] at h1 h2 ⊢
  clear hw1 hga
  go_wp2_with fail
  go_loopw [5] (fun vi wr => ∃ (k : Nat) (r : List Int), k ≤ 4 ∧ vi = .int .i64 k ∧ NumA n r k ∧ Blk wr ga 25 (cellsZ (List.replicate 16 0)).toArray ∧ Blk wr (ga + 1) 25 (cellsZ r).toArray ∧ Touch [] w wr) (fun vi _ => 4 - (intOf vi).toNat)
  case atStart => exact ⟨0, _, by omega, rfl, NumA.start n, h1, h2, h3⟩
  case round =>
    clear h1 h2 h3
    obtain ⟨k, r, hk, rfl, hA, hB, hC, hT⟩ := hrel
    have HA := Lib.hid hA
    have HB := Lib.hid hB
    have HC := Lib.hid hC
    have HT := Lib.hid hT
    clear hA hB hC hT
    by_cases hk4 : k < 4
    · have hc : wr.cell? ⟨ga + 1, k, none⟩ = some (.int .i64 (r.getD k 0)) := by
        rw [HC.out.cell, List.getElem?_toArray]; exact cellsZ_at (by rw [HA.out.len]; omega)
      have hf : wr.frozen? ⟨ga + 1, k, none⟩ = false := HC.out.frozen _
      have hst := fun d => HA.out.step (by omega) (d := d)
      have hand := and_65535 (n / 2 ^ (16 * k)) (Nat.lt_of_le_of_lt (Nat.div_le_self _ _) Hn.out)
      have e7 : ((n / 2 ^ (16 * k) : Nat) : Int) = (n : Int) / 2 ^ (16 * k) := by simp
      simp only [e7] at hand
      obtain ⟨d, hd⟩ : ∃ d, d = n / 2 ^ (16 * k) % 65536 := ⟨_, rfl⟩
      have HS := Lib.hid (hst d hd)
      rw [← hd] at hand
      have hd1 : d < 65536 := by omega
      clear hst hd e7
      go_wp2_with fail
      go_roundw
      case rel =>
        have hC2 := HC.out.set_ k (.int .i64 (d : Int))
        rw [cellsZ_set] at hC2
        have hB2 := HB.out.far (p := ⟨ga + 1, k, none⟩) (by simp) (.int .i64 (d : Int))
        have hT2 := HT.out.setCell (p := ⟨ga + 1, k, none⟩) (.inr (by have := Hga.out; simp only; omega)) (.int .i64 (d : Int))
        first | exact ⟨k + 1, _, by omega, by go_num, HS.out, hB2, hC2, hT2⟩ | ((repeat apply Exists.intro); exact ⟨⟨k + 1, _, by omega, by go_num, HS.out, hB2, hC2, hT2⟩, rfl⟩)
      case measure => simp [intOf]; omega
    · obtain rfl : k = 4 := by omega
      obtain ⟨hr, hfe⟩ := HA.out.red Hn.out
      have Hr := Lib.hid hr
      have Hf := Lib.hid hfe
      clear hr hfe
      go_wp2_with (first | (refine wpList_loadE rfl (.tmp 3) rfl (ga + 1) rfl 25 r Hr.out.len HC.out ?_) | (refine wpList_storeE rfl (.tmp 2) (.tmp 18) rfl ga rfl r rfl 25 _ Hr.out.len rfl HB.out ?_))
      exact elem_ret Tryd.results37 Hr.out Hf.out rfl 25 (HB.out.setRow _) (HT.out.setRowE (.inr Hga.out) _)
end Go.Proofs.YtbgpgbfiadhddaaDoor
