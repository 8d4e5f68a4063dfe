/- SmallE; SmallE2; CutE; OfE; PowE; PowI; InvE; PowR1; PowR2; RootE: joined. -/
import Derived.Deep.RegionHeld3
import Derived.Lib.Strings
import Derived.Test.YtbgpgbfiadhddaaPm10
/- (field.Elem).Neg, Same, Odd, Zero; field.Num. -/
namespace Go.Proofs.Ytbgpgbfiadhddaa
open Go.RowKit
theorem red0 : Red (List.replicate 16 0) := ⟨by simp, fun x hx => by have := (List.mem_replicate.1 hx).2; omega⟩
theorem fe0 : fe (List.replicate 16 0) = 0 := by decide
theorem sub0 (x : Nat) : subF 0 x = negF x := by unfold subF addF negF PP; omega
theorem elV0 : elV (List.replicate 16 0) = .agg #[.int .i64 0, .int .i64 0, .int .i64 0, .int .i64 0, .int .i64 0, .int .i64 0, .int .i64 0, .int .i64 0, .int .i64 0, .int .i64 0, .int .i64 0, .int .i64 0, .int .i64 0, .int .i64 0, .int .i64 0, .int .i64 0] := rfl
theorem sub0_any (m : List Int) (hm : Red m) (w : World) :
    Calls Try.prog 29 #[.agg #[.int .i64 0, .int .i64 0, .int .i64 0, .int .i64 0, .int .i64 0, .int .i64 0, .int .i64 0, .int .i64 0, .int .i64 0, .int .i64 0, .int .i64 0, .int .i64 0, .int .i64 0, .int .i64 0, .int .i64 0, .int .i64 0], elV m] w (EPost (negF (fe m)) w) := by
  have h := sub_any (List.replicate 16 0) m red0 hm w
  rw [elV0, fe0, sub0] at h
  exact h
/-- The last steps of a function that gives a number: load, store, return. -/
theorem elem_ret {fn : Func} {p : Tmp} (hres : fn.results = #[.cell p 24]) {w w' : World} {n : Nat} {g : Nat} {l : List Int} (hl : Red l) (hn : fe l = n) {tmps : Array Value} (hp : tmps.getD p undef = .pointer (some ⟨g, 0, none⟩)) (t : TypeId) (hB : Blk w' g t (cellsZ l).toArray) (hT : Touch [] w w') :
    bodyPost Try.prog fn (EPost n w) Exit.ret { tmps := tmps, defers := [] } w' :=
  bodyPost_ret (results_cell_row hres _ _ g t (cellsZ l).toArray (0, 0) _ hp hB Try.underlying24 rfl (by rw [cellsZ_size, hl.len]; exact infoE)) rfl ⟨l, hl, hn, rfl, hT⟩
/-- Two boxes, the second one a result's. -/
theorem box2 (w : World) (l : List Int) : Blk ((w.alloc (.cells (cellsZ l).toArray 24)).alloc (.cells (cellsZ (List.replicate 16 0)).toArray 24)) w.heap.size 24 (cellsZ l).toArray ∧
    Blk ((w.alloc (.cells (cellsZ l).toArray 24)).alloc (.cells (cellsZ (List.replicate 16 0)).toArray 24)) (w.heap.size + 1) 24 (cellsZ (List.replicate 16 0)).toArray ∧
    Touch [] w ((w.alloc (.cells (cellsZ l).toArray 24)).alloc (.cells (cellsZ (List.replicate 16 0)).toArray 24)) := by
  refine ⟨(Blk.new _ _ _).alloc _, ?_, ((Touch.refl _ _).alloc _).alloc _⟩
  have := Blk.new (w.alloc (.cells (cellsZ l).toArray 24)) 24 (cellsZ (List.replicate 16 0)).toArray
  simpa using this
set_option maxRecDepth 100000 in
set_option maxHeartbeats 1000000 in
theorem neg_anyE (l : List Int) (hl : Red l) (w : World) :
    Calls Try.prog 35 #[elV l] w (EPost (negF (fe l)) w) := by
  have Hl := Lib.hid hl
  clear hl
  unfold elV
  go_enter Try.func35, Try.ntmps35
  go_upto_region 1 with fail
  rw [← zeroE_eq]
  obtain ⟨h1, h2, h3⟩ := box2 w l
  obtain ⟨w1, hw1⟩ : ∃ w1, w1 = (w.alloc (.cells (cellsZ l).toArray 24)).alloc (.cells (cellsZ (List.replicate 16 0)).toArray 24) := ⟨_, rfl⟩
  rw [← hw1] at h1 h2 h3 ⊢
  have H1 := Lib.hid h1
  have H2 := Lib.hid h2
  have H3 := Lib.hid h3
  clear h1 h2 h3 hw1
  go_wp2_with (refine wpList_loadE rfl (.tmp 1) rfl _ rfl 24 l Hl.out.len H1.out ?_)
  refine (sub0_any l Hl.out w1).mono ?_
  rintro e w5 ⟨r, hr, hf, rfl, hT⟩
  have Hr := Lib.hid hr
  have Hf := Lib.hid hf
  have HT := Lib.hid hT
  have HB := Lib.hid (H2.out.touch hT (by simp))
  clear hr hf hT
  go_wp2_with (refine wpList_storeE rfl (.tmp 2) (.tmp 5) rfl (w.heap.size + 1) rfl r rfl 24 _ Hr.out.len rfl HB.out ?_)
  exact elem_ret Try.results35 Hr.out Hf.out rfl 24 (HB.out.setRow _) ((H3.out.trans HT.out).setRowE (.inr (by simp)) _)
theorem str_beqE (a b : ByteArray) : (a.toList == b.toList) = decide (a = b) := by
  rw [Lib.toList_data, Lib.toList_data, Bool.eq_iff_iff]
  simp only [beq_iff_eq, decide_eq_true_eq]
  refine ⟨fun h => ?_, fun h => by rw [h]⟩
  cases a; cases b
  simp only [ByteArray.mk.injEq]
  exact Array.toList_inj.1 h
theorem PP_lt : PP < 115792089237316195423570985008687907853269984665640564039457584007913129639936 := by decide
theorem toS_beq {a b : Nat} (ha : a < PP) (hb : b < PP) : ((toS a).toList == (toS b).toList) = decide (a = b) := by
  rw [str_beqE]
  exact decide_eq_decide.2 ⟨fun h => toS_inj (Nat.lt_trans ha PP_lt) (Nat.lt_trans hb PP_lt) h, fun h => by rw [h]⟩
/-- The cells of a number, one by one. -/
theorem agg16 {l : List Int} (hl : l.length = 16) {c : Nat → Value} (hc : ∀ j, c j = .int .i64 (l.getD j 0)) : elV l = .agg #[c 0, c 1, c 2, c 3, c 4, c 5, c 6, c 7, c 8, c 9, c 10, c 11, c 12, c 13, c 14, c 15] := by
  simp only [hc]
  match l, hl with
  | [a0, a1, a2, a3, a4, a5, a6, a7, a8, a9, a10, a11, a12, a13, a14, a15], _ => rfl
/-- Sixteen cells lie in a block, from its head on. -/
def At16 (W : World) (g : Nat) (c : Nat → Value) : Prop := ∀ j, j < 16 → W.cell? ⟨g, j, none⟩ = some (c j)
theorem Blk.at16 {w : World} {g : Nat} {t : TypeId} {l : List Int} (h : Blk w g t (cellsZ l).toArray) (hl : l.length = 16) {c : Nat → Value} (hc : ∀ j, c j = .int .i64 (l.getD j 0)) : ∀ j, j < 16 → w.cell? ⟨g, j, none⟩ = some (c j) := fun j hj => by
  rw [h.cell, List.getElem?_toArray, hc]; exact cellsZ_at (by omega)
theorem at16_touch {w w' : World} {g : Nat} {c : Nat → Value} (h : ∀ j, j < 16 → w.cell? ⟨g, j, none⟩ = some (c j)) (ht : Touch [] w w') : ∀ j, j < 16 → w'.cell? ⟨g, j, none⟩ = some (c j) := fun j hj => by
  rw [ht.cell (World.block_lt_of_cell? w _ (h j hj)) (by simp)]; exact h j hj
theorem cells_fn (l : List Int) : ∃ c : Nat → Value, ∀ j, c j = .int .i64 (l.getD j 0) := ⟨_, fun _ => rfl⟩
set_option maxRecDepth 100000 in
set_option maxHeartbeats 1000000 in
theorem same_any (l m : List Int) (hl : Red l) (hm : Red m) (w : World) :
    Calls Try.prog 52 #[elV l, elV m] w fun e w' => e = .returned (.bool (decide (fe l = fe m))) ∧ Touch [] w w' := by
  obtain ⟨c, hc⟩ := cells_fn l
  obtain ⟨d, hd⟩ := cells_fn m
  have hbl : ∀ W, Calls Try.prog 47 #[.agg #[c 0, c 1, c 2, c 3, c 4, c 5, c 6, c 7, c 8, c 9, c 10, c 11, c 12, c 13, c 14, c 15]] W fun e w' => e = .returned (.string (toS (fe l))) ∧ Touch [] W w' := fun W => agg16 hl.len hc ▸ bytes_any l hl W
  have hbm : ∀ W, Calls Try.prog 47 #[.agg #[d 0, d 1, d 2, d 3, d 4, d 5, d 6, d 7, d 8, d 9, d 10, d 11, d 12, d 13, d 14, d 15]] W fun e w' => e = .returned (.string (toS (fe m))) ∧ Touch [] W w' := fun W => agg16 hm.len hd ▸ bytes_any m hm W
  have Hbl := Lib.hid hbl
  have Hbm := Lib.hid hbm
  have He := Lib.hid (toS_beq (fe_lt l) (fe_lt m))
  have Hc := Lib.hid hc
  have Hd := Lib.hid hd
  have Hl := Lib.hid hl
  have Hm := Lib.hid hm
  clear hbl hbm hl hm hc hd
  unfold elV
  go_enter Try.func52, Try.ntmps52
  go_upto_region 1 with fail
  obtain ⟨w1, hw1⟩ : ∃ w1, w1 = (w.alloc (.cells (cellsZ l).toArray 24)).alloc (.cells (cellsZ m).toArray 24) := ⟨_, rfl⟩
  have h1 : Blk w1 w.heap.size 24 (cellsZ l).toArray := by rw [hw1]; exact (Blk.new _ _ _).alloc _
  have h2 : Blk w1 (w.heap.size + 1) 24 (cellsZ m).toArray := by
    have := Blk.new (w.alloc (.cells (cellsZ l).toArray 24)) 24 (cellsZ m).toArray
    rw [hw1]; simpa using this
  have h3 : Touch [] w w1 := by rw [hw1]; exact ((Touch.refl _ _).alloc _).alloc _
  rw [← hw1]
  clear hw1
  have hS : (∀ j, j < 16 → w1.drew.cell? ⟨w.heap.size, j, none⟩ = some (c j)) ∧ (∀ j, j < 16 → w1.drew.cell? ⟨w.heap.size + 1, j, none⟩ = some (d j)) ∧ Touch [] w w1.drew := ⟨h1.drew.at16 Hl.out.len Hc.out, h2.drew.at16 Hm.out.len Hd.out, h3.drew⟩
  clear h1 h2 h3
  go_region_held3 (fun W => (∀ j, j < 16 → W.cell? ⟨w.heap.size, j, none⟩ = some (c j)) ∧ (∀ j, j < 16 → W.cell? ⟨w.heap.size + 1, j, none⟩ = some (d j)) ∧ Touch [] w W) (first | assumption | (go_split_ands; exact ⟨at16_touch (by assumption) ht, at16_touch (by assumption) ht, Touch.trans (by assumption) ht⟩))
    (first | (go_at_call 47; (with_reducible_and_instances refine (Hbl.out _).mono ?_); rintro e wa ⟨rfl, ht⟩) | (go_at_call 47; (with_reducible_and_instances refine (Hbm.out _).mono ?_); rintro e wa ⟨rfl, ht⟩))
  all_goals
    rename_i hHeld
    have HF := Lib.hid hHeld.2.2
    clear hHeld hS
    rw [He.out]
    go_wp2_with fail
    go_ret
    exact ⟨rfl, HF.out⟩
end Go.Proofs.Ytbgpgbfiadhddaa
/- (field.Elem).Odd, Zero; field.Num. -/
namespace Go.Proofs.Ytbgpgbfiadhddaa
open Go.RowKit
theorem index_blE (s : ByteArray) (i : Int) (q : Nat) (hi : i = q) (hq : q < s.size) (W : World) :
    (Instr.index 9 (.string s) (.int .i64 i)).run Try.prog W = .ok (.int .u8 (((bl s).getD q 0 : Nat) : Int)) W := by
  subst hi
  rw [run_index_string W 9 s .i64 q Try.underlying9, dif_pos ⟨by omega, by omega⟩]
  have hq2 : q < s.data.toList.length := hq
  congr 2
  simp only [bl, List.getD, List.getElem?_map, List.getElem?_eq_getElem hq2]
  rfl
theorem and8_1 : ∀ y : Fin 256, bits .and .u8 (y.val : Int) 1 = ((y.val % 2 : Nat) : Int) := by decide +kernel
theorem toS_at (n i : Nat) (hi : i < 32) : (bl (toS n)).getD i 0 = n / 2 ^ (8 * i) % 256 := by
  rw [bl_toS, List.getD, byN_at 32 n i hi]; rfl
set_option maxRecDepth 100000 in
theorem odd_any (l : List Int) (hl : Red l) (w : World) :
    Calls Try.prog 48 #[elV l] w fun e w' => e = .returned (.bool (decide (fe l % 2 = 1))) ∧ Touch [] w w' := by
  have Hl := Lib.hid hl
  have hix := Lib.hid (index_blE (toS (fe l)) 0 0 rfl (by rw [toS_size]; omega))
  rw [toS_at _ 0 (by omega)] at hix
  have hand := Lib.hid (and8_1 ⟨fe l / 2 ^ (8 * 0) % 256, by omega⟩)
  have hfin : Hid (((((fe l / 2 ^ (8 * 0) % 256) % 2 : Nat) : Int) == 1) = decide (fe l % 2 = 1)) := Lib.hid (by
    rw [Bool.eq_iff_iff, beq_iff_eq, decide_eq_true_eq]; simp; omega)
  obtain ⟨q, hq⟩ : ∃ q, q = fe l / 2 ^ (8 * 0) % 256 := ⟨_, rfl⟩
  rw [← hq] at hix hfin
  simp only [← hq] at hand
  clear hl hq
  unfold elV
  go_enter Try.func48, Try.ntmps48
  go_wp2_with (refine wpList_loadE rfl (.tmp 1) rfl _ rfl 24 l Hl.out.len (Blk.new _ _ _) ?_)
  refine (bytes_any l Hl.out _).mono ?_
  rintro e w5 ⟨rfl, hT⟩
  have HT := Lib.hid (((Touch.refl [] w).alloc (.cells (cellsZ l).toArray 24)).trans hT)
  have h1 := hix.out
  have h2 := hand.out
  obtain ⟨b, hb⟩ : ∃ b, b = q % 2 := ⟨_, rfl⟩
  rw [← hb] at h2 hfin
  clear hT hb hix hand
  go_wp2_with fail
  go_ret
  exact ⟨ret_bool hfin.out, HT.out⟩
set_option maxRecDepth 100000 in
theorem zero_anyE (l : List Int) (hl : Red l) (w : World) :
    Calls Try.prog 34 #[elV l] w fun e w' => e = .returned (.bool (decide (fe l = 0))) ∧ Touch [] w w' := by
  have Hl := Lib.hid hl
  have hs : ∀ W, Calls Try.prog 52 #[elV l, .agg #[.int .i64 0, .int .i64 0, .int .i64 0, .int .i64 0, .int .i64 0, .int .i64 0, .int .i64 0, .int .i64 0, .int .i64 0, .int .i64 0, .int .i64 0, .int .i64 0, .int .i64 0, .int .i64 0, .int .i64 0, .int .i64 0]] W fun e w' => e = .returned (.bool (decide (fe l = 0))) ∧ Touch [] W w' := fun W => by
    have h := same_any l (List.replicate 16 0) hl red0 W
    rw [elV0, fe0] at h
    exact h
  have Hs := Lib.hid hs
  clear hs hl
  unfold elV at Hs
  unfold elV
  go_enter Try.func34, Try.ntmps34
  go_wp2_with (refine wpList_loadE rfl (.tmp 1) rfl _ rfl 24 l Hl.out.len (Blk.new _ _ _) ?_)
  refine (Hs.out _).mono ?_
  rintro e w5 ⟨rfl, hT⟩
  have HT := Lib.hid (((Touch.refl [] w).alloc (.cells (cellsZ l).toArray 24)).trans hT)
  clear hT
  go_wp2_with fail
  go_ret
  exact ⟨rfl, HT.out⟩
/-- Digits of a small number. -/
structure NumA (n : Nat) (r : List Int) (k : Nat) : Prop where
  len : r.length = 16
  dig : Dig r
  val : vI r = ((n % 2 ^ (16 * k) : Nat) : Int)
  far : ∀ j, k ≤ j → r.getD j 0 = 0
theorem rep_getD (n j : Nat) : (List.replicate n (0 : Int)).getD j 0 = 0 := by
  rw [List.getD, List.getElem?_replicate]
  split <;> rfl
theorem NumA.start (n : Nat) : NumA n (List.replicate 16 0) 0 := ⟨by simp, fun x hx => by have := (List.mem_replicate.1 hx).2; omega, by simp [vI, Nat.mod_one], fun j _ => rep_getD 16 j⟩
theorem NumA.step {n k : Nat} {r : List Int} (h : NumA n r k) (hk : k < 16) {d : Nat} (hd : d = n / 2 ^ (16 * k) % 65536) : NumA n (r.set k (d : Int)) (k + 1) := by
  have h1 := h.len
  refine ⟨by simp [h1], fun x hx => ?_, ?_, fun j hj => by rw [getD_set_ne (by omega)]; exact h.far j (by omega)⟩
  · rcases List.mem_or_eq_of_mem_set hx with hx | rfl
    · exact h.dig x hx
    · omega
  · have e1 := vI_set (l := r) (k := k) (by omega) (d : Int)
    rw [h.far k (Nat.le_refl _), Int.mul_zero, Int.add_zero, h.val] at e1
    rw [e1, show 16 * (k + 1) = 16 * k + 16 by omega, Nat.pow_add, Nat.mod_mul, hd]
    have e2 : (65536 : Int) ^ k = ((2 ^ (16 * k) : Nat) : Int) := by
      rw [Nat.pow_mul]; simp
    rw [e2]
    simp
theorem NumA.red {n : Nat} {r : List Int} (h : NumA n r 4) (hn : n < 18446744073709551616) : Red r ∧ fe r = n % PP := by
  refine ⟨⟨h.len, fun x hx => by have := h.dig x hx; omega⟩, ?_⟩
  have e : 2 ^ (16 * 4) = 18446744073709551616 := by decide
  unfold fe
  rw [h.val, e, Nat.mod_eq_of_lt hn, fz_nat]
theorem and_65535 (y : Nat) (hy : y < 18446744073709551616) : bits .and .u64 (y : Int) 65535 = ((y % 65536 : Nat) : Int) := by
  have h := bits_and_u64_nat y 65535 hy (by omega)
  rw [show (65535 : Nat) = 2 ^ 16 - 1 by decide, Nat.and_two_pow_sub_one_eq_mod] at h
  exact h
set_option maxRecDepth 100000 in
set_option maxHeartbeats 1000000 in
theorem num_any (n : Nat) (hn : n < 18446744073709551616) (w : World) :
    Calls Try.prog 27 #[.int .u64 (n : Int)] w (EPost (n % PP) w) := by
  have Hn := Lib.hid hn
  clear hn
  go_enter Try.func27, Try.ntmps27
  go_upto_region 2 with fail
  rw [← zeroE_eq]
  obtain ⟨w1, hw1⟩ : ∃ w1, w1 = (w.alloc (.cells (cellsZ (List.replicate 16 0)).toArray 24)).alloc (.cells (cellsZ (List.replicate 16 0)).toArray 24) := ⟨_, rfl⟩
  obtain ⟨h1, h2, h3⟩ := box2 w (List.replicate 16 0)
  rw [← hw1] at h1 h2 h3 ⊢
  obtain ⟨ga, hga⟩ : ∃ ga, ga = w.heap.size := ⟨_, rfl⟩
  have Hga := Lib.hid (show w.heap.size ≤ ga by omega)
  rw [← hga] at h1 h2 ⊢
  clear hw1 hga
  go_wp2_with fail
  go_loopw [5] (fun vi wr => ∃ (k : Nat) (r : List Int), k ≤ 4 ∧ vi = .int .i64 k ∧ NumA n r k ∧ Blk wr ga 24 (cellsZ (List.replicate 16 0)).toArray ∧ Blk wr (ga + 1) 24 (cellsZ r).toArray ∧ Touch [] w wr) (fun vi _ => 4 - (intOf vi).toNat)
  case atStart => exact ⟨0, _, by omega, rfl, NumA.start n, h1, h2, h3⟩
  case round =>
    clear h1 h2 h3
    obtain ⟨k, r, hk, rfl, hA, hB, hC, hT⟩ := hrel
    have HA := Lib.hid hA
    have HB := Lib.hid hB
    have HC := Lib.hid hC
    have HT := Lib.hid hT
    clear hA hB hC hT
    by_cases hk4 : k < 4
    · have hc : wr.cell? ⟨ga + 1, k, none⟩ = some (.int .i64 (r.getD k 0)) := by
        rw [HC.out.cell, List.getElem?_toArray]; exact cellsZ_at (by rw [HA.out.len]; omega)
      have hf : wr.frozen? ⟨ga + 1, k, none⟩ = false := HC.out.frozen _
      have hst := fun d => HA.out.step (by omega) (d := d)
      have hand := and_65535 (n / 2 ^ (16 * k)) (Nat.lt_of_le_of_lt (Nat.div_le_self _ _) Hn.out)
      have e7 : ((n / 2 ^ (16 * k) : Nat) : Int) = (n : Int) / 2 ^ (16 * k) := by simp
      simp only [e7] at hand
      obtain ⟨d, hd⟩ : ∃ d, d = n / 2 ^ (16 * k) % 65536 := ⟨_, rfl⟩
      have HS := Lib.hid (hst d hd)
      rw [← hd] at hand
      have hd1 : d < 65536 := by omega
      clear hst hd e7
      go_wp2_with fail
      go_roundw
      case rel =>
        have hC2 := HC.out.set_ k (.int .i64 (d : Int))
        rw [cellsZ_set] at hC2
        have hB2 := HB.out.far (p := ⟨ga + 1, k, none⟩) (by simp) (.int .i64 (d : Int))
        have hT2 := HT.out.setCell (p := ⟨ga + 1, k, none⟩) (.inr (by have := Hga.out; simp only; omega)) (.int .i64 (d : Int))
        first | exact ⟨k + 1, _, by omega, by go_num, HS.out, hB2, hC2, hT2⟩ | ((repeat apply Exists.intro); exact ⟨⟨k + 1, _, by omega, by go_num, HS.out, hB2, hC2, hT2⟩, rfl⟩)
      case measure => simp [intOf]; omega
    · obtain rfl : k = 4 := by omega
      obtain ⟨hr, hfe⟩ := HA.out.red Hn.out
      have Hr := Lib.hid hr
      have Hf := Lib.hid hfe
      clear hr hfe
      go_wp2_with (first | (refine wpList_loadE rfl (.tmp 3) rfl (ga + 1) rfl 24 r Hr.out.len HC.out ?_) | (refine wpList_storeE rfl (.tmp 2) (.tmp 18) rfl ga rfl r rfl 24 _ Hr.out.len rfl HB.out ?_))
      exact elem_ret Try.results27 Hr.out Hf.out rfl 24 (HB.out.setRow _) (HT.out.setRowE (.inr Hga.out) _)
end Go.Proofs.Ytbgpgbfiadhddaa
/- field.Cut: the number of any bytes. -/
namespace Go.Proofs.Ytbgpgbfiadhddaa
open Go.RowKit
theorem bytes_cellsE (w : World) (e : TypeId) (t : ByteArray) (c j : Nat) (hj : j < t.size) :
    (w.drew.alloc (.cells (bytesRow t c) e ((bytesRow t c).size, (bytesRow t c).size + 1))).cell? ⟨w.heap.size, j, none⟩ = some (.int .u8 (((bl t).getD j 0 : Nat) : Int)) := by
  have hj' : j < t.data.size := hj
  refine (World.cell?_alloc_mark w.drew (bytesRow t c) e ((bytesRow t c).size, (bytesRow t c).size + 1) j).trans ?_
  rw [bytesRow_at t c j hj']
  have hj2 : j < t.data.toList.length := by simpa using hj'
  simp only [bl, List.getD, List.getElem?_map, List.getElem?_eq_getElem hj2]
  simp
theorem bl_extractE (s : ByteArray) (m : Nat) : bl (s.extract 0 m) = (bl s).take m := by
  unfold bl
  simp [ByteArray.data_extract, List.map_take]
theorem i64_or8 (y b : Nat) (hy : y < 256) (hb : b < 256) : bits .or .i64 (y : Int) ((b * 256 : Nat) : Int) = ((y + b * 256 : Nat) : Int) := by
  have h1 : (BitVec.ofInt 64 (y : Int)).toNat = y := by
    rw [BitVec.ofInt_natCast, BitVec.toNat_ofNat]; exact Nat.mod_eq_of_lt (by omega)
  have h2 : (BitVec.ofInt 64 ((b * 256 : Nat) : Int)).toNat = b * 256 := by
    rw [BitVec.ofInt_natCast, BitVec.toNat_ofNat]; exact Nat.mod_eq_of_lt (by omega)
  have h3 := Nat.shiftLeft_add_eq_or_of_lt (i := 8) (b := y) (by omega) b
  rw [Nat.shiftLeft_eq, show 2 ^ 8 = 256 from rfl] at h3
  show IntKind.i64.wrap ((BitVec.ofInt 64 (y : Int) ||| BitVec.ofInt 64 ((b * 256 : Nat) : Int)).toNat : Nat) = _
  rw [BitVec.toNat_or, h1, h2, Nat.or_comm, ← h3, IntKind.wrap_i64]
  omega
theorem i64_or0 (b : Nat) (hb : b < 256) : bits .or .i64 0 (b : Int) = (b : Int) := by
  have h2 : (BitVec.ofInt 64 (b : Int)).toNat = b := by
    rw [BitVec.ofInt_natCast, BitVec.toNat_ofNat]; exact Nat.mod_eq_of_lt (by omega)
  show IntKind.i64.wrap ((BitVec.ofInt 64 0 ||| BitVec.ofInt 64 (b : Int)).toNat : Nat) = _
  rw [BitVec.toNat_or, h2, show (BitVec.ofInt 64 0).toNat = 0 from rfl, Nat.zero_or, IntKind.wrap_i64]
  omega
structure CutA (t : List Nat) (r : List Int) (i : Nat) : Prop where
  len : r.length = 16
  dig : Dig r
  val : vI r = ((leN (t.take i) : Nat) : Int)
theorem CutA.start (t : List Nat) : CutA t (List.replicate 16 0) 0 := ⟨by simp, fun x hx => by have := (List.mem_replicate.1 hx).2; omega, by simp [vI, leN]⟩
theorem take_ltE {l : List Nat} (h : ∀ b ∈ l, b < 256) {j : Nat} (hj : j ≤ l.length) : leN (l.take j) < 256 ^ j := by
  have h1 := leN_lt (l := l.take j) (fun b hb => h b (List.mem_of_mem_take hb))
  rwa [List.length_take, Nat.min_eq_left hj] at h1
/-- An even byte. -/
theorem CutA.even {t : List Nat} {r : List Int} {k : Nat} (h : CutA t r (2 * k)) (ht : ∀ b ∈ t, b < 256) (hk : 2 * k < t.length) (hk16 : k < 16) {b : Nat} (hb : b = t.getD (2 * k) 0) :
    r.getD k 0 = 0 ∧ CutA t (r.set k (b : Int)) (2 * k + 1) := by
  have h1 := h.len
  have hN := take_ltE ht (Nat.le_of_lt hk)
  have e : (256 : Nat) ^ (2 * k) = 2 ^ (16 * k) := by rw [show (256 : Nat) = 2 ^ 8 by decide, ← Nat.pow_mul]; congr 1; omega
  have h0 : r.getD k 0 = 0 := by
    rw [dig_at h.dig _ h.val k (by omega), Nat.div_eq_of_lt (by rw [← e]; exact hN)]; rfl
  have hb256 : b < 256 := by rw [hb, List.getD, List.getElem?_eq_getElem hk]; exact ht _ (List.getElem_mem hk)
  refine ⟨h0, by simp [h1], fun x hx => ?_, ?_⟩
  · rcases List.mem_or_eq_of_mem_set hx with hx | rfl
    · exact h.dig x hx
    · omega
  · have e1 := vI_set (l := r) (k := k) (by omega) (b : Int)
    rw [h0, Int.mul_zero, Int.add_zero, h.val] at e1
    rw [e1, leN_take_succ hk, ← hb, e, Nat.pow_mul]
    simp
/-- An odd byte. -/
theorem CutA.odd {t : List Nat} {r : List Int} {k : Nat} (h : CutA t r (2 * k + 1)) (ht : ∀ b ∈ t, b < 256) (hk : 2 * k + 1 < t.length) (hk16 : k < 16) {b y : Nat} (hb : b = t.getD (2 * k + 1) 0) (hy : y = (r.getD k 0).toNat) :
    r.getD k 0 = (y : Int) ∧ y < 256 ∧ CutA t (r.set k ((y + b * 256 : Nat) : Int)) (2 * (k + 1)) := by
  have h1 := h.len
  have hN := take_ltE ht (Nat.le_of_lt hk)
  have e : (256 : Nat) ^ (2 * k + 1) = 2 ^ (16 * k) * 256 := by
    rw [Nat.pow_succ, show (256 : Nat) ^ (2 * k) = 2 ^ (16 * k) by rw [show (256 : Nat) = 2 ^ 8 by decide, ← Nat.pow_mul]; congr 1; omega]
  have hd := h.dig.at_ k
  have hda := dig_at h.dig _ h.val k (by omega)
  have hq : leN (t.take (2 * k + 1)) / 2 ^ (16 * k) < 256 := Nat.div_lt_of_lt_mul (by rw [e] at hN; exact hN)
  have hyv : r.getD k 0 = (y : Int) := by omega
  generalize leN (t.take (2 * k + 1)) / 2 ^ (16 * k) = Q at hda hq
  have hb256 : b < 256 := by rw [hb, List.getD, List.getElem?_eq_getElem hk]; exact ht _ (List.getElem_mem hk)
  have hy256 : y < 256 := by omega
  refine ⟨hyv, hy256, by simp [h1], fun x hx => ?_, ?_⟩
  · rcases List.mem_or_eq_of_mem_set hx with hx | rfl
    · exact h.dig x hx
    · omega
  · have e1 := vI_set (l := r) (k := k) (by omega) ((y + b * 256 : Nat) : Int)
    rw [hyv, h.val] at e1
    rw [show 2 * (k + 1) = (2 * k + 1) + 1 by omega, leN_take_succ hk, ← hb, e]
    have e2 : ((2 ^ (16 * k) : Nat) : Int) = (65536 : Int) ^ k := by rw [Nat.pow_mul]; simp
    have e3 : ((2 ^ (16 * k) * 256 * b : Nat) : Int) = 65536 ^ k * 256 * b := by rw [Int.natCast_mul, Int.natCast_mul, e2]; rfl
    have e4 : ((leN (t.take (2 * k + 1)) + 2 ^ (16 * k) * 256 * b : Nat) : Int) = ((leN (t.take (2 * k + 1)) : Nat) : Int) + 65536 ^ k * 256 * b := by rw [Int.natCast_add, e3]
    rw [e4]
    have hz : ((y + b * 256 : Nat) : Int) = (y : Int) + b * 256 := by omega
    generalize (y + b * 256 : Nat) = z at *
    rw [hz] at e1
    generalize (65536 : Int) ^ k = P at *
    generalize ((leN (t.take (2 * k + 1)) : Nat) : Int) = N at *
    rw [hz]
    grind
theorem CutA.red {t : List Nat} {r : List Int} {i : Nat} (h : CutA t r i) (hi : t.length ≤ i) : Red r ∧ fe r = leN t % PP := by
  refine ⟨⟨h.len, fun x hx => by have := h.dig x hx; omega⟩, ?_⟩
  unfold fe
  rw [h.val, List.take_of_length_le hi, fz_nat]
/-- The number of the first 32 bytes. -/
def cutN (s : ByteArray) : Nat := leN ((bl s).take 32) % PP
set_option maxRecDepth 100000 in
set_option maxHeartbeats 1000000 in
theorem cut_anyE (s : ByteArray) (w : World) :
    Calls Try.prog 30 #[.string s] w (EPost (cutN s) w) := by
  go_enter Try.func30, Try.ntmps30
  go_upto_region 2 with fail
  rw [← zeroE_eq]
  obtain ⟨w1, hw1⟩ : ∃ w1, w1 = (w.alloc (.cells (cellsZ (List.replicate 16 0)).toArray 24)).alloc (.cells (cellsZ (List.replicate 16 0)).toArray 24) := ⟨_, rfl⟩
  obtain ⟨h1, h2, h3⟩ := box2 w (List.replicate 16 0)
  rw [← hw1] at h1 h2 h3 ⊢
  obtain ⟨ga, hga⟩ : ∃ ga, ga = w.heap.size := ⟨_, rfl⟩
  have Hga := Lib.hid (show w.heap.size ≤ ga by omega)
  rw [← hga] at h1 h2 ⊢
  have hlt2 := h2.lt
  have H1 := Lib.hid h1
  have H2 := Lib.hid h2
  have H3 := Lib.hid h3
  clear hw1 hga h1 h2 h3
  go_cut [11, 12, 13] (fun v17 v18 v19 wx => ∃ (t : ByteArray) (cap gt : Nat), bl t = (bl s).take 32 ∧ t.size ≤ 32 ∧ v17 = .slice (some ⟨gt, 0, none⟩) t.size cap ∧ v18 = .int .i64 (t.size : Int) ∧ v19 = .int .i64 0 ∧ ga + 1 < gt ∧ t.size ≤ cap ∧
    (∀ j, j < t.size → wx.cell? ⟨gt, j, none⟩ = some (.int .u8 (((bl t).getD j 0 : Nat) : Int))) ∧ gt < wx.heap.size ∧ Touch [] w1 wx)
  case first =>
    by_cases hs : s.size ≤ 32
    · have hcv := run_bytes_of_string (P := Try.prog) w1 9 53 5 s Try.underlying9 Try.underlying53 Try.underlying5
      have hcap := grownCap_ge w1 s.size 0 5
      have hcell := bytes_cellsE w1 5 s (grownCap w1 s.size 0 5)
      obtain ⟨cap, hc⟩ : ∃ cap, cap = grownCap w1 s.size 0 5 := ⟨_, rfl⟩
      rw [← hc] at hcv hcap hcell
      obtain ⟨W1, hW1⟩ : ∃ W1, W1 = w1.drew.alloc (.cells (bytesRow s cap) 5 ((bytesRow s cap).size, (bytesRow s cap).size + 1)) := ⟨_, rfl⟩
      rw [← hW1] at hcv hcell
      have Hfin : Hid (bl s = (bl s).take 32 ∧ (∀ j, j < s.size → W1.cell? ⟨w1.heap.size, j, none⟩ = some (.int .u8 (((bl s).getD j 0 : Nat) : Int))) ∧ w1.heap.size < W1.heap.size ∧ Touch [] w1 W1) :=
        Lib.hid ⟨by rw [List.take_of_length_le (by rw [bl_len]; omega)], hcell, by rw [hW1]; simp, by rw [hW1]; exact (Touch.refl _ _).drew.alloc _⟩
      have hsi : (s.size : Int) ≤ 32 := by omega
      clear hc hW1 hcell
      go_wp2_with fail
      go_meet
      exact ⟨s, cap, w1.heap.size, Hfin.out.1, by omega, rfl, rfl, rfl, hlt2, hcap, Hfin.out.2.1, Hfin.out.2.2.1, Hfin.out.2.2.2⟩
    · obtain ⟨t, ht⟩ : ∃ t, t = s.extract 0 32 := ⟨_, rfl⟩
      have hts : t.size = 32 := by rw [ht]; simp; omega
      have hbt : bl t = (bl s).take 32 := by rw [ht, bl_extractE]
      have hcv := run_bytes_of_string (P := Try.prog) w1 9 53 5 t Try.underlying9 Try.underlying53 Try.underlying5
      have hcap := grownCap_ge w1 t.size 0 5
      have hcell := bytes_cellsE w1 5 t (grownCap w1 t.size 0 5)
      obtain ⟨cap, hc⟩ : ∃ cap, cap = grownCap w1 t.size 0 5 := ⟨_, rfl⟩
      rw [← hc] at hcv hcap hcell
      obtain ⟨W1, hW1⟩ : ∃ W1, W1 = w1.drew.alloc (.cells (bytesRow t cap) 5 ((bytesRow t cap).size, (bytesRow t cap).size + 1)) := ⟨_, rfl⟩
      rw [← hW1] at hcv hcell
      have Hfin : Hid (bl t = (bl s).take 32 ∧ t.size ≤ 32 ∧ t.size ≤ cap ∧ (∀ j, j < t.size → W1.cell? ⟨w1.heap.size, j, none⟩ = some (.int .u8 (((bl t).getD j 0 : Nat) : Int))) ∧ w1.heap.size < W1.heap.size ∧ Touch [] w1 W1) :=
        Lib.hid ⟨hbt, by omega, hcap, hcell, by rw [hW1]; simp, by rw [hW1]; exact (Touch.refl _ _).drew.alloc _⟩
      have Hts := Lib.hid hts
      have hmin1 : ¬ ((s.size : Int) ≤ 32) := by omega
      have hmin2 : (32 : Int) < s.size := by omega
      have hle : (32 : Int) ≤ s.size := by omega
      rw [ht] at hcv
      have Ht := Lib.hid ht
      clear hc hW1 hcell hts hbt hcap ht
      go_wp2_with fail
      go_meet
      have e : min 32 s.size = t.size := by rw [Hts.out]; omega
      rw [e]
      exact ⟨t, cap, w1.heap.size, Hfin.out.1, Hfin.out.2.1, rfl, rfl, rfl, hlt2, Hfin.out.2.2.1, Hfin.out.2.2.2.1, Hfin.out.2.2.2.2.1, Hfin.out.2.2.2.2.2⟩
  case rest =>
    obtain ⟨t, cap, gt, hbt, htz, rfl, rfl, rfl, hne, hcap, hcell, hgt, ht⟩ := hcut
    have Hbt := Lib.hid hbt
    have Hcell := Lib.hid hcell
    have HB := Lib.hid (H1.out.touch ht (by simp))
    have HC := Lib.hid (H2.out.touch ht (by simp))
    have HT := Lib.hid (H3.out.trans ht)
    clear hbt hcell ht H1 H2 H3
    go_wp2_with fail
    go_loopw [13] (fun vi wr => ∃ (i : Nat) (r : List Int), i ≤ t.size ∧ vi = .int .i64 i ∧ CutA (bl t) r i ∧ Blk wr ga 24 (cellsZ (List.replicate 16 0)).toArray ∧ Blk wr (ga + 1) 24 (cellsZ r).toArray ∧
      (∀ j, j < t.size → wr.cell? ⟨gt, j, none⟩ = some (.int .u8 (((bl t).getD j 0 : Nat) : Int))) ∧ Touch [] w wr) (fun vi _ => t.size - (intOf vi).toNat)
    case atStart => exact ⟨0, _, by omega, rfl, CutA.start _, HB.out, HC.out, Hcell.out, HT.out⟩
    case round =>
      clear HB HC Hcell HT
      obtain ⟨i, r, hi, rfl, hA, hB, hC, hL, hT⟩ := hrel
      have HA := Lib.hid hA
      have HB := Lib.hid hB
      have HC := Lib.hid hC
      have HL := Lib.hid hL
      have HT := Lib.hid hT
      clear hA hB hC hL hT
      by_cases hlt : i < t.size
      · obtain ⟨k, hk⟩ : ∃ k, k = i / 2 := ⟨_, rfl⟩
        rcases (show i = 2 * k ∨ i = 2 * k + 1 by omega) with hi2 | hi2
        all_goals have hk16 : k < 16 := by omega
        all_goals clear hk
        · have HI := Lib.hid hi2
          have hq : (i : Int).tdiv 2 = (k : Int) := by rw [Int.tdiv_eq_ediv_of_nonneg (by omega)]; omega
          have hr : (i : Int).tmod 2 = 0 := by rw [Int.tmod_eq_emod_of_nonneg (by omega)]; omega
          have hcw : wr.cell? ⟨ga + 1, k, none⟩ = some (.int .i64 (r.getD k 0)) := by
            rw [HC.out.cell, List.getElem?_toArray]; exact cellsZ_at (by rw [HA.out.len]; omega)
          have hcb : wr.cell? ⟨gt, i, none⟩ = some (.int .u8 (((bl t).getD i 0 : Nat) : Int)) := HL.out i hlt
          have hfr : wr.frozen? ⟨ga + 1, k, none⟩ = false := HC.out.frozen _
          have hb256 : (bl t).getD i 0 < 256 := by
            have hil : i < (bl t).length := by rw [bl_len]; exact hlt
            rw [List.getD, List.getElem?_eq_getElem hil]; exact bl_lt t _ (List.getElem_mem hil)
          have hst := (hi2 ▸ HA.out).even (bl_lt t) (by rw [bl_len]; omega) (by omega) (b := (bl t).getD i 0) (by rw [hi2])
          rw [hst.1] at hcw
          have HS := Lib.hid hst.2
          obtain ⟨b, hb⟩ : ∃ b, b = (bl t).getD i 0 := ⟨_, rfl⟩
          rw [← hb] at hcb hb256 HS
          have hor := i64_or0 b hb256
          clear hst hb hi2
          go_wp2_with fail
          go_region
          go_wp2_with fail
          go_roundw
          case rel =>
            have hC2 := HC.out.set_ k (.int .i64 (b : Int))
            rw [cellsZ_set] at hC2
            have hB2 := HB.out.far (p := ⟨ga + 1, k, none⟩) (by simp) (.int .i64 (b : Int))
            have hT2 := HT.out.setCell (p := ⟨ga + 1, k, none⟩) (.inr (by have := Hga.out; simp only; omega)) (.int .i64 (b : Int))
            have hL2 : ∀ j, j < t.size → (wr.setCell ⟨ga + 1, k, none⟩ (.int .i64 (b : Int))).cell? ⟨gt, j, none⟩ = some (.int .u8 (((bl t).getD j 0 : Nat) : Int)) := fun j hj =>
              (World.cell?_of_block (Below.heap_setCell wr ⟨ga + 1, k, none⟩ _ gt (by simp only; omega))).trans (HL.out j hj)
            have HS2 := HS.out
            rw [← HI.out] at HS2
            first | exact ⟨i + 1, _, by omega, by go_num, HS2, hB2.drew, hC2.drew, hL2, hT2.drew⟩ | ((repeat apply Exists.intro); exact ⟨⟨i + 1, _, by omega, by go_num, HS2, hB2.drew, hC2.drew, hL2, hT2.drew⟩, rfl⟩)
          case measure => simp [intOf]; omega
        · have HI := Lib.hid hi2
          have hq : (i : Int).tdiv 2 = (k : Int) := by rw [Int.tdiv_eq_ediv_of_nonneg (by omega)]; omega
          have hr : (i : Int).tmod 2 = 1 := by rw [Int.tmod_eq_emod_of_nonneg (by omega)]; omega
          have hcw : wr.cell? ⟨ga + 1, k, none⟩ = some (.int .i64 (r.getD k 0)) := by
            rw [HC.out.cell, List.getElem?_toArray]; exact cellsZ_at (by rw [HA.out.len]; omega)
          have hcb : wr.cell? ⟨gt, i, none⟩ = some (.int .u8 (((bl t).getD i 0 : Nat) : Int)) := HL.out i hlt
          have hfr : wr.frozen? ⟨ga + 1, k, none⟩ = false := HC.out.frozen _
          have hb256 : (bl t).getD i 0 < 256 := by
            have hil : i < (bl t).length := by rw [bl_len]; exact hlt
            rw [List.getD, List.getElem?_eq_getElem hil]; exact bl_lt t _ (List.getElem_mem hil)
          have hst := (hi2 ▸ HA.out).odd (bl_lt t) (by rw [bl_len]; omega) (by omega) (b := (bl t).getD i 0) (by rw [hi2]) rfl
          obtain ⟨y, hy⟩ : ∃ y, y = (r.getD k 0).toNat := ⟨_, rfl⟩
          rw [← hy] at hst
          rw [hst.1] at hcw
          have hy256 := hst.2.1
          have HS := Lib.hid hst.2.2
          obtain ⟨b, hb⟩ : ∃ b, b = (bl t).getD i 0 := ⟨_, rfl⟩
          rw [← hb] at hcb hb256 HS
          have hor := i64_or8 y b hy256 hb256
          have e8 : ((b * 256 : Nat) : Int) = (b : Int) * 256 := by omega
          rw [e8] at hor
          obtain ⟨z, hz⟩ : ∃ z, z = y + b * 256 := ⟨_, rfl⟩
          rw [← hz] at hor HS
          clear e8 hy hz
          clear hst hb hi2
          go_wp2_with fail
          go_region
          go_wp2_with fail
          go_roundw
          case rel =>
            have hC2 := HC.out.set_ k (.int .i64 (z : Int))
            rw [cellsZ_set] at hC2
            have hB2 := HB.out.far (p := ⟨ga + 1, k, none⟩) (by simp) (.int .i64 (z : Int))
            have hT2 := HT.out.setCell (p := ⟨ga + 1, k, none⟩) (.inr (by have := Hga.out; simp only; omega)) (.int .i64 (z : Int))
            have hL2 : ∀ j, j < t.size → (wr.setCell ⟨ga + 1, k, none⟩ (.int .i64 (z : Int))).cell? ⟨gt, j, none⟩ = some (.int .u8 (((bl t).getD j 0 : Nat) : Int)) := fun j hj =>
              (World.cell?_of_block (Below.heap_setCell wr ⟨ga + 1, k, none⟩ _ gt (by simp only; omega))).trans (HL.out j hj)
            have HS2 := HS.out
            rw [show 2 * (k + 1) = i + 1 by have := HI.out; omega] at HS2
            first | exact ⟨i + 1, _, by omega, by go_num, HS2, hB2.drew, hC2.drew, hL2, hT2.drew⟩ | ((repeat apply Exists.intro); exact ⟨⟨i + 1, _, by omega, by go_num, HS2, hB2.drew, hC2.drew, hL2, hT2.drew⟩, rfl⟩)
          case measure => simp [intOf]; omega
      · obtain rfl : i = t.size := by omega
        obtain ⟨hr, hfe⟩ := HA.out.red (by rw [bl_len]; exact Nat.le_refl _)
        have Hr := Lib.hid hr
        have Hf := Lib.hid (show fe r = cutN s by rw [hfe, Hbt.out]; rfl)
        clear hr hfe
        go_wp2_with (first | (refine wpList_loadE rfl (.tmp 3) rfl (ga + 1) rfl 24 r Hr.out.len HC.out ?_) | (refine wpList_storeE rfl (.tmp 2) (.tmp 33) rfl ga rfl r rfl 24 _ Hr.out.len rfl HB.out ?_))
        exact elem_ret Try.results30 Hr.out Hf.out rfl 24 (HB.out.setRow _) (HT.out.setRowE (.inr Hga.out) _)
end Go.Proofs.Ytbgpgbfiadhddaa
/- field.Of: the number of 32 bytes, or what is wrong. -/
namespace Go.Proofs.Ytbgpgbfiadhddaa
open Go.RowKit
/-- What is wrong with bytes. -/
def ofC (s : ByteArray) : Int := if s.size < 32 then 2 else if 32 < s.size then 4 else if toS (cutN s) = s then 0 else 3
def ofN (s : ByteArray) : Nat := if ofC s = 0 then cutN s else 0
def OfPost (s : ByteArray) (w : World) (e : Ending) (w' : World) : Prop := ∃ r, Red r ∧ fe r = ofN s ∧ e = .returned (.tuple #[elV r, .int .i64 (ofC s)]) ∧ Touch [] w w'
theorem of_ret {fn : Func} {p q : Tmp} (hres : fn.results = #[.cell p 24, .tmp q]) {w w' : World} {s : ByteArray} {g : Nat} {l : List Int} (hl : Red l) (hn : fe l = ofN s) {tmps : Array Value} (hp : tmps.getD p undef = .pointer (some ⟨g, 0, none⟩)) (hq : tmps.getD q undef = .int .i64 (ofC s)) (t : TypeId) (hB : Blk w' g t (cellsZ l).toArray) (hT : Touch [] w w') :
    bodyPost Try.prog fn (OfPost s w) Exit.ret { tmps := tmps, defers := [] } w' :=
  bodyPost_ret (results_row_tmp hres _ _ g t (cellsZ l).toArray (0, 0) _ hp hB Try.underlying24 rfl (by rw [cellsZ_size, hl.len]; exact infoE)) rfl ⟨l, hl, hn, by rw [hq]; rfl, hT⟩
set_option maxRecDepth 100000 in
set_option maxHeartbeats 1000000 in
theorem of_any (s : ByteArray) (w : World) :
    Calls Try.prog 26 #[.string s] w (OfPost s w) := by
  have hz : Blk (w.alloc (.cells (cellsZ (List.replicate 16 0)).toArray 24)) w.heap.size 24 (cellsZ (List.replicate 16 0)).toArray := Blk.new _ _ _
  have hzt := (Touch.refl [] w).alloc (.cells (cellsZ (List.replicate 16 0)).toArray 24)
  obtain ⟨w1, hw1⟩ : ∃ w1, w1 = w.alloc (.cells (cellsZ (List.replicate 16 0)).toArray 24) := ⟨_, rfl⟩
  rw [← hw1] at hz hzt
  have HZ := Lib.hid hz
  have HT := Lib.hid hzt
  have HW := Lib.hid hw1
  clear hz hzt hw1
  by_cases h1 : s.size < 32
  · have hc := Lib.hid (show ofC s = 2 by unfold ofC; rw [if_pos h1])
    have hn := Lib.hid (show ofN s = 0 by unfold ofN; rw [hc.out]; rfl)
    have e1 : (s.size : Int) < 32 := by omega
    clear h1
    go_enter Try.func26, Try.ntmps26
    go_upto_region 1 with fail
    rw [← zeroE_eq, ← HW.out]
    go_wp2_with (refine wpList_storeE rfl (.tmp 2) (.tmp 9) rfl _ rfl (List.replicate 16 0) rfl 24 _ rfl rfl HZ.out ?_)
    exact of_ret Try.results26 red0 (by rw [hn.out, fe0]) rfl (by rw [hc.out]; rfl) 24 (HZ.out.setRow _) (HT.out.setRowE (.inr (Nat.le_refl _)) _)
  · by_cases h2 : 32 < s.size
    · have hc := Lib.hid (show ofC s = 4 by unfold ofC; rw [if_neg h1, if_pos h2])
      have hn := Lib.hid (show ofN s = 0 by unfold ofN; rw [hc.out]; rfl)
      have e1 : ¬ (s.size : Int) < 32 := by omega
      have e2 : (32 : Int) < s.size := by omega
      clear h1 h2
      go_enter Try.func26, Try.ntmps26
      go_upto_region 1 with fail
      rw [← zeroE_eq, ← HW.out]
      go_wp2_with (refine wpList_storeE rfl (.tmp 2) (.tmp 14) rfl _ rfl (List.replicate 16 0) rfl 24 _ rfl rfl HZ.out ?_)
      exact of_ret Try.results26 red0 (by rw [hn.out, fe0]) rfl (by rw [hc.out]; rfl) 24 (HZ.out.setRow _) (HT.out.setRowE (.inr (Nat.le_refl _)) _)
    · have e1 : ¬ (s.size : Int) < 32 := by omega
      have e2 : ¬ (32 : Int) < s.size := by omega
      have H1 := Lib.hid h1
      have H2 := Lib.hid h2
      clear h1 h2
      go_enter Try.func26, Try.ntmps26
      go_upto_region 1 with fail
      rw [← zeroE_eq, ← HW.out]
      go_wp2_with fail
      refine (cut_anyE s w1).mono ?_
      rintro e w5 ⟨r, hr, hf, rfl, hT⟩
      have Hr := Lib.hid hr
      have Hf := Lib.hid hf
      have HZ5 := Lib.hid (HZ.out.touch hT (by simp))
      have HT5 := Lib.hid (HT.out.trans hT)
      have hsz := hT.size
      have hlt := HZ.out.lt
      have Hne : Hid (w.heap.size ≠ w5.heap.size) := Lib.hid (by omega)
      clear hr hf hT hsz hlt
      go_upto_region 6 with (refine wpList_storeE rfl (.tmp 4) (.tmp 16) rfl _ rfl r rfl 24 _ Hr.out.len rfl (Blk.new _ _ _) ?_)
      rw [World.setRow_alloc_new]
      obtain ⟨w6, hw6⟩ : ∃ w6, w6 = w5.alloc (.cells (cellsZ r).toArray 24) := ⟨_, rfl⟩
      obtain ⟨gr, hgr⟩ : ∃ gr, gr = w5.heap.size := ⟨_, rfl⟩
      have HB6 : Hid (Blk w6 gr 24 (cellsZ r).toArray) := Lib.hid (by rw [hw6, hgr]; exact Blk.new _ _ _)
      have HZ6 : Hid (Blk w6 w.heap.size 24 (cellsZ (List.replicate 16 0)).toArray) := Lib.hid (by rw [hw6]; exact HZ5.out.alloc _)
      have HT6 : Hid (Touch [] w w6) := Lib.hid (by rw [hw6]; exact HT5.out.alloc _)
      rw [← hw6, ← hgr]
      clear hw6 hgr Hne HZ5 HT5
      go_wp2_with (refine wpList_loadE rfl (.tmp 4) rfl gr rfl 24 r Hr.out.len HB6.out ?_)
      refine (bytes_any r Hr.out w6).mono ?_
      rintro e w7 ⟨rfl, hT⟩
      have HB7 := Lib.hid (HB6.out.touch hT (by simp))
      have HZ7 := Lib.hid (HZ6.out.touch hT (by simp))
      have HT7 := Lib.hid (HT6.out.trans hT)
      rw [Hf.out]
      have hq := str_beqE (toS (cutN s)) s
      clear hT
      by_cases h3 : toS (cutN s) = s
      · have hc := Lib.hid (show ofC s = 0 by unfold ofC; rw [if_neg H1.out, if_neg H2.out, if_pos h3])
        have hn := Lib.hid (show ofN s = cutN s by unfold ofN; rw [if_pos hc.out])
        rw [decide_eq_true h3] at hq
        obtain ⟨t, ht⟩ : ∃ t, t = toS (cutN s) := ⟨_, rfl⟩
        rw [← ht] at hq ⊢
        clear h3 ht
        go_wp2_with (first | (refine wpList_loadE rfl (.tmp 4) rfl gr rfl 24 r Hr.out.len HB7.out ?_) | (refine wpList_storeE rfl (.tmp 2) (.tmp 22) rfl w.heap.size rfl r rfl 24 _ Hr.out.len rfl HZ7.out ?_))
        exact of_ret Try.results26 Hr.out (by rw [Hf.out, hn.out]) rfl (by rw [hc.out]; rfl) 24 (HZ7.out.setRow _) (HT7.out.setRowE (.inr (Nat.le_refl _)) _)
      · have hc := Lib.hid (show ofC s = 3 by unfold ofC; rw [if_neg H1.out, if_neg H2.out, if_neg h3])
        have hn := Lib.hid (show ofN s = 0 by unfold ofN; rw [hc.out]; rfl)
        rw [decide_eq_false h3] at hq
        obtain ⟨t, ht⟩ : ∃ t, t = toS (cutN s) := ⟨_, rfl⟩
        rw [← ht] at hq ⊢
        clear h3 ht
        go_wp2_with (refine wpList_storeE rfl (.tmp 2) (.tmp 21) rfl w.heap.size rfl (List.replicate 16 0) rfl 24 _ rfl rfl HZ7.out ?_)
        exact of_ret Try.results26 red0 (by rw [hn.out, fe0]) rfl (by rw [hc.out]; rfl) 24 (HZ7.out.setRow _) (HT7.out.setRowE (.inr (Nat.le_refl _)) _)
end Go.Proofs.Ytbgpgbfiadhddaa
/- (field.power).of: its exponent, its blocks. -/
namespace Go.Proofs.Ytbgpgbfiadhddaa
open Go.RowKit
/-- The exponent. -/
def exF (skip : Nat → Bool) : Nat → Nat → Nat
  | 0, e => e
  | k + 1, e => exF skip k (2 * e + if skip k then 0 else 1)
structure PowW (w : World) (gp : Nat) (top : Int) (v : Value) (l r : List Int) (wr : World) : Prop where
  bp : Blk wr gp 78 #[.int .i64 top, v]
  ba : Blk wr (gp + 1) 24 (cellsZ l).toArray
  bz : Blk wr (gp + 2) 24 (cellsZ (List.replicate 16 0)).toArray
  bc : Blk wr (gp + 3) 24 (cellsZ r).toArray
  touch : Touch [] w wr
  new : w.heap.size ≤ gp
theorem PowW.more {w wr w' : World} {gp : Nat} {top : Int} {v : Value} {l r : List Int} (h : PowW w gp top v l r wr) (ht : Touch [] wr w') : PowW w gp top v l r w' :=
  ⟨h.bp.touch ht (by simp), h.ba.touch ht (by simp), h.bz.touch ht (by simp), h.bc.touch ht (by simp), h.touch.trans ht, h.new⟩
theorem PowW.setC {w wr : World} {gp : Nat} {top : Int} {v : Value} {l r : List Int} (h : PowW w gp top v l r wr) (q : List Int) : PowW w gp top v l q (wr.setRow (gp + 3) (cellsZ q).toArray) :=
  ⟨h.bp.frow (by omega) _, h.ba.frow (by omega) _, h.bz.frow (by omega) _, h.bc.setRow _, h.touch.setRowE (.inr (by have := h.new; omega)) _, h.new⟩
theorem PowW.start (w : World) (top : Int) (v : Value) (l : List Int) : PowW w w.heap.size top v l l ((((w.alloc (.cells #[.int .i64 top, v] 78)).alloc (.cells (cellsZ l).toArray 24)).alloc (.cells (cellsZ (List.replicate 16 0)).toArray 24)).alloc (.cells (cellsZ l).toArray 24)) := by
  refine ⟨(((Blk.new _ _ _).alloc _).alloc _).alloc _, ?_, ?_, ?_, ((((Touch.refl _ _).alloc _).alloc _).alloc _).alloc _, Nat.le_refl _⟩
  · have := ((Blk.new (w.alloc (.cells #[.int .i64 top, v] 78)) 24 (cellsZ l).toArray).alloc (.cells (cellsZ (List.replicate 16 0)).toArray 24)).alloc (.cells (cellsZ l).toArray 24)
    simpa using this
  · have := (Blk.new ((w.alloc (.cells #[.int .i64 top, v] 78)).alloc (.cells (cellsZ l).toArray 24)) 24 (cellsZ (List.replicate 16 0)).toArray).alloc (.cells (cellsZ l).toArray 24)
    simpa using this
  · have := Blk.new (((w.alloc (.cells #[.int .i64 top, v] 78)).alloc (.cells (cellsZ l).toArray 24)).alloc (.cells (cellsZ (List.replicate 16 0)).toArray 24)) 24 (cellsZ l).toArray
    simpa using this
theorem mulF_pow (x a b : Nat) : mulF (x ^ a % PP) (x ^ b % PP) = x ^ (a + b) % PP := by
  unfold mulF
  rw [← Nat.mul_mod, Nat.pow_add]
end Go.Proofs.Ytbgpgbfiadhddaa
/- (field.power).of, at one of its powers (I). -/
namespace Go.Proofs.Ytbgpgbfiadhddaa
open Go.RowKit
set_option maxRecDepth 100000 in
set_option maxHeartbeats 2000000 in
theorem pow_I (skip : Nat → Bool) (hF : ∀ (i : Nat) (W : World), Calls Try.prog 56 #[.int .i64 (i : Int)] W fun e W' => e = .returned (.bool (skip i)) ∧ W = W') (top : Nat) (h0 : 0 < top) (h1 : top ≤ 300) (l : List Int) (hl : Red l) (w : World) :
    Calls Try.prog 57 #[.agg #[.int .i64 (top : Int), .func (Fn.func 56) #[] #[]], elV l] w (EPost (fe l ^ exF skip top 1 % PP) w) := by
  have Hl := Lib.hid hl
  have HF := Lib.hid hF
  clear hl hF
  obtain ⟨v, hv⟩ : ∃ v : Value, v = .func (Fn.func 56) #[] #[] := ⟨_, rfl⟩
  have Hv := Lib.hid hv
  rw [← hv]
  clear hv
  unfold elV
  go_enter Try.func57, Try.ntmps57
  go_upto_region 1 with fail
  rw [← zeroE_eq]
  have hW := PowW.start w top v l
  obtain ⟨w3, hw3⟩ : ∃ w3, w3 = ((w.alloc (.cells #[.int .i64 (top : Int), v] 78)).alloc (.cells (cellsZ l).toArray 24)).alloc (.cells (cellsZ (List.replicate 16 0)).toArray 24) := ⟨_, rfl⟩
  have hs3 : w3.heap.size = w.heap.size + 3 := by rw [hw3]; simp
  have ha3 : Blk w3 (w.heap.size + 1) 24 (cellsZ l).toArray := by
    have := (Blk.new (w.alloc (.cells #[.int .i64 (top : Int), v] 78)) 24 (cellsZ l).toArray).alloc (.cells (cellsZ (List.replicate 16 0)).toArray 24)
    rw [hw3]; simpa using this
  rw [← hw3] at hW ⊢
  have HW := Lib.hid hW
  have HS3 := Lib.hid hs3
  clear hW hw3 hs3
  go_upto_region 2 with (first | (refine wpList_loadE rfl (.tmp 3) rfl _ rfl 24 l Hl.out.len ha3 ?_) | (refine wpList_storeE rfl (.tmp 5) (.tmp 7) rfl _ rfl l rfl 24 _ Hl.out.len rfl (Blk.new _ _ _) ?_))
  rw [World.setRow_alloc_new, HS3.out]
  obtain ⟨w4, hw4⟩ : ∃ w4, w4 = w3.alloc (.cells (cellsZ l).toArray 24) := ⟨_, rfl⟩
  obtain ⟨gp, hgp⟩ : ∃ gp, gp = w.heap.size := ⟨_, rfl⟩
  rw [← hw4, ← hgp] at HW
  rw [← hw4, ← hgp]
  clear hw4 hgp ha3 HS3
  have hc0 : w4.cell? ⟨gp, 0, none⟩ = some (.int .i64 (top : Int)) := HW.out.bp.cell 0
  go_wp2_with fail
  clear hc0
  go_loopw [6] (fun vi wr => ∃ (k : Nat) (r : List Int) (e : Nat), k ≤ top ∧ vi = .int .i64 ((k : Int) - 1) ∧ Red r ∧ fe r = fe l ^ e % PP ∧ exF skip k e = exF skip top 1 ∧ PowW w gp top v l r wr) (fun vi _ => (intOf vi + 1).toNat)
  case atStart => exact ⟨top, l, 1, Nat.le_refl _, rfl, Hl.out, by rw [Nat.pow_one, Nat.mod_eq_of_lt (fe_lt l)], rfl, HW.out⟩
  case round =>
    clear HW
    obtain ⟨k, r, e, hk, rfl, hr, hf, he, hW⟩ := hrel
    have Hr := Lib.hid hr
    have Hf := Lib.hid hf
    have He := Lib.hid he
    have HW := Lib.hid hW
    clear hr hf he hW
    rcases k with _ | j
    · rw [show (((0 : Nat) : Int) - 1) = -1 by omega]
      go_wp2_with (first | (refine wpList_loadE rfl (.tmp 5) rfl (gp + 3) rfl 24 r Hr.out.len HW.out.bc ?_) | (refine wpList_storeE rfl (.tmp 4) (.tmp 26) rfl (gp + 2) rfl r rfl 24 _ Hr.out.len rfl HW.out.bz ?_))
      exact elem_ret Try.results57 Hr.out (by rw [Hf.out, ← He.out]; rfl) rfl 24 (HW.out.bz.setRow _) (HW.out.touch.setRowE (.inr (by have := HW.out.new; omega)) _)
    · rw [show (((j + 1 : Nat) : Int) - 1) = (j : Int) by omega]
      go_wp2_with (refine wpList_loadE rfl (.tmp 5) rfl (gp + 3) rfl 24 r Hr.out.len HW.out.bc ?_)
      refine (mul_any r r Hr.out Hr.out wr).mono ?_
      rintro e5 w5 ⟨q, hq, hfq, rfl, hT⟩
      have Hq := Lib.hid hq
      have Hfq := Lib.hid (show fe q = fe l ^ (2 * e) % PP by rw [hfq, Hf.out, mulF_pow, Nat.two_mul])
      have HW5 := Lib.hid (HW.out.more hT)
      clear hq hfq hT
      go_upto_region 6 with (refine wpList_storeE rfl (.tmp 5) (.tmp 17) rfl (gp + 3) rfl q rfl 24 _ Hq.out.len (by rw [cellsZ_size]; exact Hr.out.len) HW5.out.bc ?_)
      have hW6 := HW5.out.setC q
      obtain ⟨w6, hw6⟩ : ∃ w6, w6 = w5.setRow (gp + 3) (cellsZ q).toArray := ⟨_, rfl⟩
      rw [← hw6] at hW6 ⊢
      have HW6 := Lib.hid hW6
      clear hW6 hw6 HW5 HW
      have hc1 : w6.cell? ⟨gp, 1, none⟩ = some (.func (Fn.func 56) #[] #[]) := by rw [← Hv.out]; exact HW6.out.bp.cell 1
      go_wp2_with fail
      refine (HF.out j w6).mono ?_
      rintro e7 w7 ⟨rfl, rfl⟩
      clear hc1
      have Hex := Lib.hid (show exF skip j (2 * e + if skip j then 0 else 1) = exF skip top 1 from He.out)
      by_cases hsk : skip j = true
      · rw [hsk] at Hex
        rw [hsk]
        clear hsk
        go_wp2_with fail
        go_roundw
        case rel => first | exact ⟨j, q, 2 * e, by omega, rfl, Hq.out, Hfq.out, by have := Hex.out; simpa using this, HW6.out⟩ | ((repeat apply Exists.intro); exact ⟨⟨j, q, 2 * e, by omega, rfl, Hq.out, Hfq.out, by have := Hex.out; simpa using this, HW6.out⟩, rfl⟩)
        case measure => simp [intOf]
      · have hsf : skip j = false := by simpa using hsk
        rw [hsf] at Hex
        rw [hsf]
        clear hsk hsf
        go_wp2_with (first | (refine wpList_loadE rfl (.tmp 5) rfl (gp + 3) rfl 24 q Hq.out.len HW6.out.bc ?_) | (refine wpList_loadE rfl (.tmp 3) rfl (gp + 1) rfl 24 l Hl.out.len HW6.out.ba ?_))
        refine (mul_any q l Hq.out Hl.out w6).mono ?_
        rintro e8 w8 ⟨p, hp, hfp, rfl, hT⟩
        have Hp := Lib.hid hp
        have Hfp := Lib.hid (show fe p = fe l ^ (2 * e + 1) % PP by
          have h := mulF_pow (fe l) (2 * e) 1
          rw [Nat.pow_one, Nat.mod_eq_of_lt (fe_lt l)] at h
          rw [hfp, Hfq.out, h])
        have HW8 := Lib.hid (HW6.out.more hT)
        clear hp hfp hT
        go_wp2_with (refine wpList_storeE rfl (.tmp 5) (.tmp 25) rfl (gp + 3) rfl p rfl 24 _ Hp.out.len (by rw [cellsZ_size]; exact Hq.out.len) HW8.out.bc ?_)
        go_roundw
        case rel => first | exact ⟨j, p, 2 * e + 1, by omega, rfl, Hp.out, Hfp.out, by have := Hex.out; simpa using this, HW8.out.setC p⟩ | ((repeat apply Exists.intro); exact ⟨⟨j, p, 2 * e + 1, by omega, rfl, Hp.out, Hfp.out, by have := Hex.out; simpa using this, HW8.out.setC p⟩, rfl⟩)
        case measure => simp [intOf]
end Go.Proofs.Ytbgpgbfiadhddaa
/- (field.power).of, at one of its powers (Inv). -/
namespace Go.Proofs.Ytbgpgbfiadhddaa
open Go.RowKit
def skI (i : Nat) : Bool := decide (i = 2 ∨ i = 4)
theorem skI_any (i : Nat) (W : World) : Calls Try.prog 56 #[.int .i64 (i : Int)] W fun e W' => e = .returned (.bool (skI i)) ∧ W = W' := by
  by_cases h2 : i = 2
  · subst h2
    go_enter Try.func56, Try.ntmps56
    go_wp2_with fail
    go_ret
    exact ⟨rfl, rfl⟩
  · by_cases h4 : i = 4
    · subst h4
      go_enter Try.func56, Try.ntmps56
      go_wp2_with fail
      go_ret
      exact ⟨rfl, rfl⟩
    · have e2 : ((i : Int) == 2) = false := beq_false_of_ne (by omega)
      have e4 : ((i : Int) == 4) = false := beq_false_of_ne (by omega)
      have e : Hid (skI i = false) := Lib.hid (decide_eq_false (by omega))
      clear h2 h4
      go_enter Try.func56, Try.ntmps56
      go_wp2_with fail
      go_ret
      exact ⟨ret_bool e.out.symm, rfl⟩
theorem skI_ex : exF skI 254 1 = PP - 2 := by decide +kernel
set_option maxRecDepth 100000 in
theorem inv_any (l : List Int) (hl : Red l) (w : World) :
    Calls Try.prog 32 #[elV l] w (EPost (fe l ^ (PP - 2) % PP) w) := by
  have Hl := Lib.hid hl
  have hp : ∀ W, Calls Try.prog 57 #[.agg #[.int .i64 254, .func (Fn.func 56) #[] #[]], elV l] W (EPost (fe l ^ (PP - 2) % PP) W) := fun W => by
    have h := pow_I skI skI_any 254 (by omega) (by omega) l hl W
    rw [skI_ex] at h
    exact h
  have Hp := Lib.hid hp
  obtain ⟨n, hn⟩ : ∃ n, n = fe l ^ (PP - 2) % PP := ⟨_, rfl⟩
  rw [← hn] at Hp
  rw [← hn]
  clear hl hp hn
  unfold elV
  unfold elV at Hp
  go_enter Try.func32, Try.ntmps32
  go_upto_region 1 with fail
  rw [← zeroE_eq]
  obtain ⟨h1, h2, h3⟩ := box2 w l
  obtain ⟨w1, hw1⟩ : ∃ w1, w1 = (w.alloc (.cells (cellsZ l).toArray 24)).alloc (.cells (cellsZ (List.replicate 16 0)).toArray 24) := ⟨_, rfl⟩
  rw [← hw1] at h1 h2 h3 ⊢
  have H1 := Lib.hid h1
  have H2 := Lib.hid h2
  have H3 := Lib.hid h3
  clear h1 h2 h3 hw1
  go_wp2_with (refine wpList_loadE rfl (.tmp 1) rfl _ rfl 24 l Hl.out.len H1.out ?_)
  refine (Hp.out w1).mono ?_
  rintro e w5 ⟨r, hr, hf, rfl, hT⟩
  have Hr := Lib.hid hr
  have Hf := Lib.hid hf
  have HT := Lib.hid hT
  have HB := Lib.hid (H2.out.touch hT (by simp))
  clear hr hf hT
  go_wp2_with (refine wpList_storeE rfl (.tmp 2) (.tmp 5) rfl (w.heap.size + 1) rfl r rfl 24 _ Hr.out.len rfl HB.out ?_)
  exact elem_ret Try.results32 Hr.out Hf.out rfl 24 (HB.out.setRow _) ((H3.out.trans HT.out).setRowE (.inr (by simp)) _)
end Go.Proofs.Ytbgpgbfiadhddaa
/- (field.power).of, at one of its powers (R1). -/
namespace Go.Proofs.Ytbgpgbfiadhddaa
open Go.RowKit
set_option maxRecDepth 100000 in
set_option maxHeartbeats 2000000 in
theorem pow_R1 (skip : Nat → Bool) (hF : ∀ (i : Nat) (W : World), Calls Try.prog 58 #[.int .i64 (i : Int)] W fun e W' => e = .returned (.bool (skip i)) ∧ W = W') (top : Nat) (h0 : 0 < top) (h1 : top ≤ 300) (l : List Int) (hl : Red l) (w : World) :
    Calls Try.prog 57 #[.agg #[.int .i64 (top : Int), .func (Fn.func 58) #[] #[]], elV l] w (EPost (fe l ^ exF skip top 1 % PP) w) := by
  have Hl := Lib.hid hl
  have HF := Lib.hid hF
  clear hl hF
  obtain ⟨v, hv⟩ : ∃ v : Value, v = .func (Fn.func 58) #[] #[] := ⟨_, rfl⟩
  have Hv := Lib.hid hv
  rw [← hv]
  clear hv
  unfold elV
  go_enter Try.func57, Try.ntmps57
  go_upto_region 1 with fail
  rw [← zeroE_eq]
  have hW := PowW.start w top v l
  obtain ⟨w3, hw3⟩ : ∃ w3, w3 = ((w.alloc (.cells #[.int .i64 (top : Int), v] 78)).alloc (.cells (cellsZ l).toArray 24)).alloc (.cells (cellsZ (List.replicate 16 0)).toArray 24) := ⟨_, rfl⟩
  have hs3 : w3.heap.size = w.heap.size + 3 := by rw [hw3]; simp
  have ha3 : Blk w3 (w.heap.size + 1) 24 (cellsZ l).toArray := by
    have := (Blk.new (w.alloc (.cells #[.int .i64 (top : Int), v] 78)) 24 (cellsZ l).toArray).alloc (.cells (cellsZ (List.replicate 16 0)).toArray 24)
    rw [hw3]; simpa using this
  rw [← hw3] at hW ⊢
  have HW := Lib.hid hW
  have HS3 := Lib.hid hs3
  clear hW hw3 hs3
  go_upto_region 2 with (first | (refine wpList_loadE rfl (.tmp 3) rfl _ rfl 24 l Hl.out.len ha3 ?_) | (refine wpList_storeE rfl (.tmp 5) (.tmp 7) rfl _ rfl l rfl 24 _ Hl.out.len rfl (Blk.new _ _ _) ?_))
  rw [World.setRow_alloc_new, HS3.out]
  obtain ⟨w4, hw4⟩ : ∃ w4, w4 = w3.alloc (.cells (cellsZ l).toArray 24) := ⟨_, rfl⟩
  obtain ⟨gp, hgp⟩ : ∃ gp, gp = w.heap.size := ⟨_, rfl⟩
  rw [← hw4, ← hgp] at HW
  rw [← hw4, ← hgp]
  clear hw4 hgp ha3 HS3
  have hc0 : w4.cell? ⟨gp, 0, none⟩ = some (.int .i64 (top : Int)) := HW.out.bp.cell 0
  go_wp2_with fail
  clear hc0
  go_loopw [6] (fun vi wr => ∃ (k : Nat) (r : List Int) (e : Nat), k ≤ top ∧ vi = .int .i64 ((k : Int) - 1) ∧ Red r ∧ fe r = fe l ^ e % PP ∧ exF skip k e = exF skip top 1 ∧ PowW w gp top v l r wr) (fun vi _ => (intOf vi + 1).toNat)
  case atStart => exact ⟨top, l, 1, Nat.le_refl _, rfl, Hl.out, by rw [Nat.pow_one, Nat.mod_eq_of_lt (fe_lt l)], rfl, HW.out⟩
  case round =>
    clear HW
    obtain ⟨k, r, e, hk, rfl, hr, hf, he, hW⟩ := hrel
    have Hr := Lib.hid hr
    have Hf := Lib.hid hf
    have He := Lib.hid he
    have HW := Lib.hid hW
    clear hr hf he hW
    rcases k with _ | j
    · rw [show (((0 : Nat) : Int) - 1) = -1 by omega]
      go_wp2_with (first | (refine wpList_loadE rfl (.tmp 5) rfl (gp + 3) rfl 24 r Hr.out.len HW.out.bc ?_) | (refine wpList_storeE rfl (.tmp 4) (.tmp 26) rfl (gp + 2) rfl r rfl 24 _ Hr.out.len rfl HW.out.bz ?_))
      exact elem_ret Try.results57 Hr.out (by rw [Hf.out, ← He.out]; rfl) rfl 24 (HW.out.bz.setRow _) (HW.out.touch.setRowE (.inr (by have := HW.out.new; omega)) _)
    · rw [show (((j + 1 : Nat) : Int) - 1) = (j : Int) by omega]
      go_wp2_with (refine wpList_loadE rfl (.tmp 5) rfl (gp + 3) rfl 24 r Hr.out.len HW.out.bc ?_)
      refine (mul_any r r Hr.out Hr.out wr).mono ?_
      rintro e5 w5 ⟨q, hq, hfq, rfl, hT⟩
      have Hq := Lib.hid hq
      have Hfq := Lib.hid (show fe q = fe l ^ (2 * e) % PP by rw [hfq, Hf.out, mulF_pow, Nat.two_mul])
      have HW5 := Lib.hid (HW.out.more hT)
      clear hq hfq hT
      go_upto_region 6 with (refine wpList_storeE rfl (.tmp 5) (.tmp 17) rfl (gp + 3) rfl q rfl 24 _ Hq.out.len (by rw [cellsZ_size]; exact Hr.out.len) HW5.out.bc ?_)
      have hW6 := HW5.out.setC q
      obtain ⟨w6, hw6⟩ : ∃ w6, w6 = w5.setRow (gp + 3) (cellsZ q).toArray := ⟨_, rfl⟩
      rw [← hw6] at hW6 ⊢
      have HW6 := Lib.hid hW6
      clear hW6 hw6 HW5 HW
      have hc1 : w6.cell? ⟨gp, 1, none⟩ = some (.func (Fn.func 58) #[] #[]) := by rw [← Hv.out]; exact HW6.out.bp.cell 1
      go_wp2_with fail
      refine (HF.out j w6).mono ?_
      rintro e7 w7 ⟨rfl, rfl⟩
      clear hc1
      have Hex := Lib.hid (show exF skip j (2 * e + if skip j then 0 else 1) = exF skip top 1 from He.out)
      by_cases hsk : skip j = true
      · rw [hsk] at Hex
        rw [hsk]
        clear hsk
        go_wp2_with fail
        go_roundw
        case rel => first | exact ⟨j, q, 2 * e, by omega, rfl, Hq.out, Hfq.out, by have := Hex.out; simpa using this, HW6.out⟩ | ((repeat apply Exists.intro); exact ⟨⟨j, q, 2 * e, by omega, rfl, Hq.out, Hfq.out, by have := Hex.out; simpa using this, HW6.out⟩, rfl⟩)
        case measure => simp [intOf]
      · have hsf : skip j = false := by simpa using hsk
        rw [hsf] at Hex
        rw [hsf]
        clear hsk hsf
        go_wp2_with (first | (refine wpList_loadE rfl (.tmp 5) rfl (gp + 3) rfl 24 q Hq.out.len HW6.out.bc ?_) | (refine wpList_loadE rfl (.tmp 3) rfl (gp + 1) rfl 24 l Hl.out.len HW6.out.ba ?_))
        refine (mul_any q l Hq.out Hl.out w6).mono ?_
        rintro e8 w8 ⟨p, hp, hfp, rfl, hT⟩
        have Hp := Lib.hid hp
        have Hfp := Lib.hid (show fe p = fe l ^ (2 * e + 1) % PP by
          have h := mulF_pow (fe l) (2 * e) 1
          rw [Nat.pow_one, Nat.mod_eq_of_lt (fe_lt l)] at h
          rw [hfp, Hfq.out, h])
        have HW8 := Lib.hid (HW6.out.more hT)
        clear hp hfp hT
        go_wp2_with (refine wpList_storeE rfl (.tmp 5) (.tmp 25) rfl (gp + 3) rfl p rfl 24 _ Hp.out.len (by rw [cellsZ_size]; exact Hq.out.len) HW8.out.bc ?_)
        go_roundw
        case rel => first | exact ⟨j, p, 2 * e + 1, by omega, rfl, Hp.out, Hfp.out, by have := Hex.out; simpa using this, HW8.out.setC p⟩ | ((repeat apply Exists.intro); exact ⟨⟨j, p, 2 * e + 1, by omega, rfl, Hp.out, Hfp.out, by have := Hex.out; simpa using this, HW8.out.setC p⟩, rfl⟩)
        case measure => simp [intOf]
end Go.Proofs.Ytbgpgbfiadhddaa
/- (field.power).of, at one of its powers (R2). -/
namespace Go.Proofs.Ytbgpgbfiadhddaa
open Go.RowKit
set_option maxRecDepth 100000 in
set_option maxHeartbeats 2000000 in
theorem pow_R2 (skip : Nat → Bool) (hF : ∀ (i : Nat) (W : World), Calls Try.prog 59 #[.int .i64 (i : Int)] W fun e W' => e = .returned (.bool (skip i)) ∧ W = W') (top : Nat) (h0 : 0 < top) (h1 : top ≤ 300) (l : List Int) (hl : Red l) (w : World) :
    Calls Try.prog 57 #[.agg #[.int .i64 (top : Int), .func (Fn.func 59) #[] #[]], elV l] w (EPost (fe l ^ exF skip top 1 % PP) w) := by
  have Hl := Lib.hid hl
  have HF := Lib.hid hF
  clear hl hF
  obtain ⟨v, hv⟩ : ∃ v : Value, v = .func (Fn.func 59) #[] #[] := ⟨_, rfl⟩
  have Hv := Lib.hid hv
  rw [← hv]
  clear hv
  unfold elV
  go_enter Try.func57, Try.ntmps57
  go_upto_region 1 with fail
  rw [← zeroE_eq]
  have hW := PowW.start w top v l
  obtain ⟨w3, hw3⟩ : ∃ w3, w3 = ((w.alloc (.cells #[.int .i64 (top : Int), v] 78)).alloc (.cells (cellsZ l).toArray 24)).alloc (.cells (cellsZ (List.replicate 16 0)).toArray 24) := ⟨_, rfl⟩
  have hs3 : w3.heap.size = w.heap.size + 3 := by rw [hw3]; simp
  have ha3 : Blk w3 (w.heap.size + 1) 24 (cellsZ l).toArray := by
    have := (Blk.new (w.alloc (.cells #[.int .i64 (top : Int), v] 78)) 24 (cellsZ l).toArray).alloc (.cells (cellsZ (List.replicate 16 0)).toArray 24)
    rw [hw3]; simpa using this
  rw [← hw3] at hW ⊢
  have HW := Lib.hid hW
  have HS3 := Lib.hid hs3
  clear hW hw3 hs3
  go_upto_region 2 with (first | (refine wpList_loadE rfl (.tmp 3) rfl _ rfl 24 l Hl.out.len ha3 ?_) | (refine wpList_storeE rfl (.tmp 5) (.tmp 7) rfl _ rfl l rfl 24 _ Hl.out.len rfl (Blk.new _ _ _) ?_))
  rw [World.setRow_alloc_new, HS3.out]
  obtain ⟨w4, hw4⟩ : ∃ w4, w4 = w3.alloc (.cells (cellsZ l).toArray 24) := ⟨_, rfl⟩
  obtain ⟨gp, hgp⟩ : ∃ gp, gp = w.heap.size := ⟨_, rfl⟩
  rw [← hw4, ← hgp] at HW
  rw [← hw4, ← hgp]
  clear hw4 hgp ha3 HS3
  have hc0 : w4.cell? ⟨gp, 0, none⟩ = some (.int .i64 (top : Int)) := HW.out.bp.cell 0
  go_wp2_with fail
  clear hc0
  go_loopw [6] (fun vi wr => ∃ (k : Nat) (r : List Int) (e : Nat), k ≤ top ∧ vi = .int .i64 ((k : Int) - 1) ∧ Red r ∧ fe r = fe l ^ e % PP ∧ exF skip k e = exF skip top 1 ∧ PowW w gp top v l r wr) (fun vi _ => (intOf vi + 1).toNat)
  case atStart => exact ⟨top, l, 1, Nat.le_refl _, rfl, Hl.out, by rw [Nat.pow_one, Nat.mod_eq_of_lt (fe_lt l)], rfl, HW.out⟩
  case round =>
    clear HW
    obtain ⟨k, r, e, hk, rfl, hr, hf, he, hW⟩ := hrel
    have Hr := Lib.hid hr
    have Hf := Lib.hid hf
    have He := Lib.hid he
    have HW := Lib.hid hW
    clear hr hf he hW
    rcases k with _ | j
    · rw [show (((0 : Nat) : Int) - 1) = -1 by omega]
      go_wp2_with (first | (refine wpList_loadE rfl (.tmp 5) rfl (gp + 3) rfl 24 r Hr.out.len HW.out.bc ?_) | (refine wpList_storeE rfl (.tmp 4) (.tmp 26) rfl (gp + 2) rfl r rfl 24 _ Hr.out.len rfl HW.out.bz ?_))
      exact elem_ret Try.results57 Hr.out (by rw [Hf.out, ← He.out]; rfl) rfl 24 (HW.out.bz.setRow _) (HW.out.touch.setRowE (.inr (by have := HW.out.new; omega)) _)
    · rw [show (((j + 1 : Nat) : Int) - 1) = (j : Int) by omega]
      go_wp2_with (refine wpList_loadE rfl (.tmp 5) rfl (gp + 3) rfl 24 r Hr.out.len HW.out.bc ?_)
      refine (mul_any r r Hr.out Hr.out wr).mono ?_
      rintro e5 w5 ⟨q, hq, hfq, rfl, hT⟩
      have Hq := Lib.hid hq
      have Hfq := Lib.hid (show fe q = fe l ^ (2 * e) % PP by rw [hfq, Hf.out, mulF_pow, Nat.two_mul])
      have HW5 := Lib.hid (HW.out.more hT)
      clear hq hfq hT
      go_upto_region 6 with (refine wpList_storeE rfl (.tmp 5) (.tmp 17) rfl (gp + 3) rfl q rfl 24 _ Hq.out.len (by rw [cellsZ_size]; exact Hr.out.len) HW5.out.bc ?_)
      have hW6 := HW5.out.setC q
      obtain ⟨w6, hw6⟩ : ∃ w6, w6 = w5.setRow (gp + 3) (cellsZ q).toArray := ⟨_, rfl⟩
      rw [← hw6] at hW6 ⊢
      have HW6 := Lib.hid hW6
      clear hW6 hw6 HW5 HW
      have hc1 : w6.cell? ⟨gp, 1, none⟩ = some (.func (Fn.func 59) #[] #[]) := by rw [← Hv.out]; exact HW6.out.bp.cell 1
      go_wp2_with fail
      refine (HF.out j w6).mono ?_
      rintro e7 w7 ⟨rfl, rfl⟩
      clear hc1
      have Hex := Lib.hid (show exF skip j (2 * e + if skip j then 0 else 1) = exF skip top 1 from He.out)
      by_cases hsk : skip j = true
      · rw [hsk] at Hex
        rw [hsk]
        clear hsk
        go_wp2_with fail
        go_roundw
        case rel => first | exact ⟨j, q, 2 * e, by omega, rfl, Hq.out, Hfq.out, by have := Hex.out; simpa using this, HW6.out⟩ | ((repeat apply Exists.intro); exact ⟨⟨j, q, 2 * e, by omega, rfl, Hq.out, Hfq.out, by have := Hex.out; simpa using this, HW6.out⟩, rfl⟩)
        case measure => simp [intOf]
      · have hsf : skip j = false := by simpa using hsk
        rw [hsf] at Hex
        rw [hsf]
        clear hsk hsf
        go_wp2_with (first | (refine wpList_loadE rfl (.tmp 5) rfl (gp + 3) rfl 24 q Hq.out.len HW6.out.bc ?_) | (refine wpList_loadE rfl (.tmp 3) rfl (gp + 1) rfl 24 l Hl.out.len HW6.out.ba ?_))
        refine (mul_any q l Hq.out Hl.out w6).mono ?_
        rintro e8 w8 ⟨p, hp, hfp, rfl, hT⟩
        have Hp := Lib.hid hp
        have Hfp := Lib.hid (show fe p = fe l ^ (2 * e + 1) % PP by
          have h := mulF_pow (fe l) (2 * e) 1
          rw [Nat.pow_one, Nat.mod_eq_of_lt (fe_lt l)] at h
          rw [hfp, Hfq.out, h])
        have HW8 := Lib.hid (HW6.out.more hT)
        clear hp hfp hT
        go_wp2_with (refine wpList_storeE rfl (.tmp 5) (.tmp 25) rfl (gp + 3) rfl p rfl 24 _ Hp.out.len (by rw [cellsZ_size]; exact Hq.out.len) HW8.out.bc ?_)
        go_roundw
        case rel => first | exact ⟨j, p, 2 * e + 1, by omega, rfl, Hp.out, Hfp.out, by have := Hex.out; simpa using this, HW8.out.setC p⟩ | ((repeat apply Exists.intro); exact ⟨⟨j, p, 2 * e + 1, by omega, rfl, Hp.out, Hfp.out, by have := Hex.out; simpa using this, HW8.out.setC p⟩, rfl⟩)
        case measure => simp [intOf]
end Go.Proofs.Ytbgpgbfiadhddaa
/- (field.Elem).Root. -/
namespace Go.Proofs.Ytbgpgbfiadhddaa
open Go.RowKit
def skA (i : Nat) : Bool := decide (i = 1)
def skB (i : Nat) : Bool := decide (i = 2)
theorem skA_any (i : Nat) (W : World) : Calls Try.prog 58 #[.int .i64 (i : Int)] W fun e W' => e = .returned (.bool (skA i)) ∧ W = W' := by
  by_cases h2 : i = 1
  · subst h2
    go_enter Try.func58, Try.ntmps58
    go_wp2_with fail
    go_ret
    exact ⟨rfl, rfl⟩
  · have e2 : ((i : Int) == 1) = false := beq_false_of_ne (by omega)
    have e : Hid (skA i = false) := Lib.hid (decide_eq_false (by omega))
    clear h2
    go_enter Try.func58, Try.ntmps58
    go_wp2_with fail
    go_ret
    exact ⟨ret_bool e.out.symm, rfl⟩
theorem skB_any (i : Nat) (W : World) : Calls Try.prog 59 #[.int .i64 (i : Int)] W fun e W' => e = .returned (.bool (skB i)) ∧ W = W' := by
  by_cases h2 : i = 2
  · subst h2
    go_enter Try.func59, Try.ntmps59
    go_wp2_with fail
    go_ret
    exact ⟨rfl, rfl⟩
  · have e2 : ((i : Int) == 2) = false := beq_false_of_ne (by omega)
    have e : Hid (skB i = false) := Lib.hid (decide_eq_false (by omega))
    clear h2
    go_enter Try.func59, Try.ntmps59
    go_wp2_with fail
    go_ret
    exact ⟨ret_bool e.out.symm, rfl⟩
theorem skA_ex : exF skA 251 1 = 7237005577332262213973186563042994240829374041602535252466099000494570602493 := by decide +kernel
theorem skB_ex : exF skB 252 1 = 14474011154664524427946373126085988481658748083205070504932198000989141204987 := by decide +kernel
/-- The root that is tried first; that which is tried then. -/
def r1N (a : Nat) : Nat := mulF (a ^ 7237005577332262213973186563042994240829374041602535252466099000494570602493 % PP) a
def r2N (a : Nat) : Nat := if mulF (r1N a) (r1N a) = a then r1N a else mulF (r1N a) (2 ^ 14474011154664524427946373126085988481658748083205070504932198000989141204987 % PP)
def isN (a : Nat) : Bool := decide (mulF (r2N a) (r2N a) = a)
def rootN (a : Nat) : Nat := if isN a then (if r2N a % 2 = 1 then negF (r2N a) else r2N a) else 0
theorem r1N_eq (a : Nat) : r1N a = mulF (a ^ 7237005577332262213973186563042994240829374041602535252466099000494570602493 % PP) a := by rw [r1N]
theorem r2N_eq (a : Nat) : r2N a = if mulF (r1N a) (r1N a) = a then r1N a else mulF (r1N a) (2 ^ 14474011154664524427946373126085988481658748083205070504932198000989141204987 % PP) := by rw [r2N]
theorem isN_eq (a : Nat) : isN a = decide (mulF (r2N a) (r2N a) = a) := by rw [isN]
theorem rootN_eq (a : Nat) : rootN a = if isN a then (if r2N a % 2 = 1 then negF (r2N a) else r2N a) else 0 := by rw [rootN]
theorem rootN_f (a : Nat) {x : Nat} (h : rootN a = if isN a then x else 0) (hi : isN a = false) : rootN a = 0 := by rw [h, hi, if_neg (by decide)]
theorem rootN_t (a : Nat) {x : Nat} (h : rootN a = if isN a then x else 0) (hi : isN a = true) : rootN a = x := by rw [h, hi, if_pos (by decide)]
def RootPost (a : Nat) (w : World) (e : Ending) (w' : World) : Prop := ∃ r, Red r ∧ fe r = rootN a ∧ e = .returned (.tuple #[elV r, .bool (isN a)]) ∧ Touch [] w w'
theorem root_ret {fn : Func} {p q : Tmp} (hres : fn.results = #[.cell p 24, .tmp q]) {w w' : World} {a : Nat} {g : Nat} {l : List Int} (hl : Red l) (hn : fe l = rootN a) {tmps : Array Value} (hp : tmps.getD p undef = .pointer (some ⟨g, 0, none⟩)) (hq : tmps.getD q undef = .bool (isN a)) (t : TypeId) (hB : Blk w' g t (cellsZ l).toArray) (hT : Touch [] w w') :
    bodyPost Try.prog fn (RootPost a w) Exit.ret { tmps := tmps, defers := [] } w' :=
  bodyPost_ret (results_row_tmp hres _ _ g t (cellsZ l).toArray (0, 0) _ hp hB Try.underlying24 rfl (by rw [cellsZ_size, hl.len]; exact infoE)) rfl ⟨l, hl, hn, by rw [hq]; rfl, hT⟩
structure RootW (w : World) (ga gc : Nat) (l q : List Int) (wr : World) : Prop where
  ba : Blk wr ga 24 (cellsZ l).toArray
  bz : Blk wr (ga + 1) 24 (cellsZ (List.replicate 16 0)).toArray
  bc : Blk wr gc 24 (cellsZ q).toArray
  touch : Touch [] w wr
  new : w.heap.size ≤ ga
  far : ga + 1 < gc
theorem RootW.more {w wr w' : World} {ga gc : Nat} {l q : List Int} (h : RootW w ga gc l q wr) (ht : Touch [] wr w') : RootW w ga gc l q w' :=
  ⟨h.ba.touch ht (by simp), h.bz.touch ht (by simp), h.bc.touch ht (by simp), h.touch.trans ht, h.new, h.far⟩
theorem RootW.setC {w wr : World} {ga gc : Nat} {l q : List Int} (h : RootW w ga gc l q wr) (p : List Int) : RootW w ga gc l p (wr.setRow gc (cellsZ p).toArray) :=
  ⟨h.ba.frow (by have := h.far; omega) _, h.bz.frow (by have := h.far; omega) _, h.bc.setRow _, h.touch.setRowE (.inr (by have := h.new; have := h.far; omega)) _, h.new, h.far⟩
/-- The range of a block that lies there from w1 on. -/
theorem range_far {w1 : World} {g : Nat} {t : TypeId} {l : List Int} (h : Blk w1 g t (cellsZ l).toArray) : ∀ W, Touch [] w1 W → W.rangeAt g 0 (cellsZ l) := fun W ht j v hv => by
  have h2 : Blk W g t (cellsZ l).toArray := h.touch ht (by simp)
  rw [Nat.zero_add, h2.cell, List.getElem?_toArray]; exact hv
theorem infoL {l : List Int} (hl : Red l) : (Try.prog.info? 24).map (·.size) = some (cellsZ l).length := by rw [cellsZ_len, hl.len]; exact infoE
theorem notin_nil {g : Nat} : g ∉ ([] : List Nat) := by simp
theorem rootW_set {w w1 wb : World} {ga g : Nat} {l p : List Int} (h1 : Blk w1 ga 24 (cellsZ l).toArray) (h2 : Blk w1 (ga + 1) 24 (cellsZ (List.replicate 16 0)).toArray) (h3 : Touch [] w w1) (hg : w.heap.size ≤ ga) (hk : Touch [] w1 wb) {old : Array Value} (hz : Blk wb g 24 old) (hn : w1.heap.size ≤ g) :
    RootW w ga g l p (wb.setRow g (cellsZ p).toArray) := by
  have hlt := h2.lt
  exact ⟨Blk.frow (h1.touch hk notin_nil) (by omega) _, Blk.frow (h2.touch hk notin_nil) (by omega) _, hz.setRow _, (h3.trans hk).setRowE (.inr (by have := h3.size; omega)) _, hg, by omega⟩
set_option maxRecDepth 100000 in
set_option maxHeartbeats 4000000 in
theorem root_any (l : List Int) (hl : Red l) (w : World) :
    Calls Try.prog 33 #[elV l] w (RootPost (fe l) w) := by
  have hp1 : ∀ W, Calls Try.prog 57 #[.agg #[.int .i64 251, .func (Fn.func 58) #[] #[]], .agg (cellsZ l).toArray] W (EPost (fe l ^ 7237005577332262213973186563042994240829374041602535252466099000494570602493 % PP) W) := fun W => by
    have h := pow_R1 skA skA_any 251 (by omega) (by omega) l hl W
    rw [skA_ex] at h
    exact h
  have hp2 : ∀ p : List Int, Red p → fe p = 2 → ∀ W, Calls Try.prog 57 #[.agg #[.int .i64 252, .func (Fn.func 59) #[] #[]], elV p] W (EPost (2 ^ 14474011154664524427946373126085988481658748083205070504932198000989141204987 % PP) W) := fun p hp hf W => by
    have h := pow_R2 skB skB_any 252 (by omega) (by omega) p hp W
    rw [skB_ex, hf] at h
    exact h
  have hm1 : ∀ q : List Int, Red q → ∀ W, Calls Try.prog 28 #[elV q, .agg (cellsZ l).toArray] W (EPost (mulF (fe q) (fe l)) W) := fun q hq W => mul_any q l hq hl W
  have hs1 : ∀ (q : List Int) (n : Nat), Red q → fe q = n → ∀ W, Calls Try.prog 52 #[elV q, .agg (cellsZ l).toArray] W fun e w' => e = .returned (.bool (decide (n = fe l))) ∧ Touch [] W w' := fun q n hq hn W => hn ▸ same_any q l hq hl W
  have hn2 : ∀ W, Calls Try.prog 27 #[.int .u64 2] W (EPost 2 W) := fun W => num_any 2 (by omega) W
  have Hp1 := Lib.hid hp1
  have Hp2 := Lib.hid hp2
  have Hm1 := Lib.hid hm1
  have Hs1 := Lib.hid hs1
  have Hn2 := Lib.hid hn2
  have Hl := Lib.hid hl
  have hr1 := Lib.hid (r1N_eq (fe l))
  obtain ⟨X1, hX1⟩ : ∃ X1, X1 = fe l ^ 7237005577332262213973186563042994240829374041602535252466099000494570602493 % PP := ⟨_, rfl⟩
  have hr2 := Lib.hid (r2N_eq (fe l))
  obtain ⟨X2, hX2⟩ : ∃ X2, X2 = 2 ^ 14474011154664524427946373126085988481658748083205070504932198000989141204987 % PP := ⟨_, rfl⟩
  have hrn := Lib.hid (rootN_eq (fe l))
  have his := Lib.hid (isN_eq (fe l))
  rw [← hX1] at Hp1 hr1
  rw [← hX2] at Hp2 hr2
  obtain ⟨a, ha⟩ : ∃ a, a = fe l := ⟨_, rfl⟩
  rw [← ha] at Hm1 Hs1 hr1 hr2 hrn his
  rw [← ha]
  clear hX1 hX2 hp1 hp2 hm1 hs1 hn2 hl ha
  unfold elV
  go_enter Try.func33, Try.ntmps33
  go_upto_region 1 with fail
  rw [← zeroE_eq]
  obtain ⟨h1, h2, h3⟩ := box2 w l
  obtain ⟨w1, hw1⟩ : ∃ w1, w1 = (w.alloc (.cells (cellsZ l).toArray 24)).alloc (.cells (cellsZ (List.replicate 16 0)).toArray 24) := ⟨_, rfl⟩
  rw [← hw1] at h1 h2 h3 ⊢
  obtain ⟨ga, hga⟩ : ∃ ga, ga = w.heap.size := ⟨_, rfl⟩
  have Hga := Lib.hid (show w.heap.size ≤ ga by omega)
  rw [← hga] at h1 h2 ⊢
  have H1 := Lib.hid h1
  have H2 := Lib.hid h2
  have H3 := Lib.hid h3
  clear h1 h2 h3 hw1 hga
  go_cut [4] (fun v4 wx => ∃ gc q, v4 = .pointer (some ⟨gc, 0, none⟩) ∧ Red q ∧ fe q = r1N a ∧ RootW w ga gc l q wx)
  case first =>
    have hS : Touch [] w1 w1.drew := (Touch.refl _ _).drew
    have r1 := Lib.hid (range_far H1.out)
    have il := Lib.hid (infoL Hl.out)
    refine wp_region_held_drew (S := fun W => Touch [] w1 W) (by kernel_rfl) hS (fun hHeld => ?_)
    refine' wpAnyH_take (i := 0) (v := .agg #[.int .i64 251, .func (Fn.func 58) #[] #[]]) rfl (by kernel_rfl) (by kernel_rfl) (by kernel_rfl) (fun _ _ _ h => h) (.inl ⟨by rfl, fun W _ => by go_simp⟩) hHeld ?_
    refine' wpAnyH_take (i := 1) (v := _) rfl (by kernel_rfl) (by kernel_rfl) (by kernel_rfl) (fun _ _ _ h => h) (yieldsIf_load_mid (by rfl) _ _ rfl _ _ rfl _ _ (r1.out) Try.underlying24 rfl (il.out)) hHeld ?_
    refine' wpAnyH_take (i := 3) (v := _) rfl (by kernel_rfl) (by kernel_rfl) (by kernel_rfl) (fun _ _ _ h => h) (yieldsIf_load_mid (by rfl) _ _ rfl _ _ rfl _ _ (r1.out) Try.underlying24 rfl (il.out)) hHeld ?_
    refine wpAnyH_ready (rs := [2, 5]) (by kernel_rfl) (by simp) ?_
    refine AllReadyH.cons (o := _) rfl (fun K hK => ?_) (AllReadyH.cons (o := _) rfl (fun K hK => ?_) AllReadyH.nil)
    · go_simp
      refine (Hp1.out _).mono ?_
      rintro e wa ⟨q, hq, hf, rfl, ht⟩
      have hk : Touch [] w1 wa := hS.trans ht
      refine hK.out _ _ (hk) (fun hHeld => ?_)
      clear hK K
      refine wpAnyH_ready (rs := [4, 5]) (by kernel_rfl) (by simp) ?_
      refine AllReadyH.cons (o := _) rfl (fun K hK => ?_) (AllReadyH.cons (o := _) rfl (fun K hK => ?_) AllReadyH.nil)
      · go_simp
        refine (Hm1.out q hq _).mono ?_
        rintro e wb ⟨p, hp, hfp, rfl, ht2⟩
        have hfq : fe p = r1N a := by rw [hfp, hf, hr1.out]
        have hk2 : Touch [] w1 wb := hk.trans ht2
        refine hK.out _ _ (hk2) (fun hHeld => ?_)
        clear hK K
        refine wpAnyH_ready (rs := [5]) (by kernel_rfl) (by simp) ?_
        refine AllReadyH.cons (o := _) rfl (fun K hK => ?_) AllReadyH.nil
        go_simp
        refine hK.out _ _ (hk2.alloc _) (fun hHeld => ?_)
        clear hK K
        refine wpAnyH_ready (rs := [6]) (by kernel_rfl) (by simp) ?_
        refine AllReadyH.cons (o := _) rfl (fun K hK => ?_) AllReadyH.nil
        rw [if_pos (by rfl)]
        refine wp_store_row _ _ _ rfl _ (cellsZ p).toArray rfl rfl 24 _ (Blk.new _ _ (cellsZ (List.replicate 16 0)).toArray) (by rw [cellsZ_size, hp.len]; exact infoE) (by rw [cellsZ_size, cellsZ_size, hp.len]; rfl) (cellsZ_one p) ?_
        refine hK.out _ _ ((hk2.alloc _).setRowE (.inr hk2.size) _) (fun hHeld => ?_)
        clear hK K
        refine wpAnyH_done (by kernel_rfl) ?_ _
        go_wp2_with fail
        go_meet
        exact ⟨_, p, rfl, hp, hfq, rootW_set H1.out H2.out H3.out Hga.out (hk2.alloc _) (Blk.new _ _ _) hk2.size⟩
      · go_simp
        refine hK.out _ _ (hk.alloc _) (fun hHeld => ?_)
        clear hK K
        refine wpAnyH_ready (rs := [4]) (by kernel_rfl) (by simp) ?_
        refine AllReadyH.cons (o := _) rfl (fun K hK => ?_) AllReadyH.nil
        go_simp
        refine (Hm1.out q hq _).mono ?_
        rintro e wb ⟨p, hp, hfp, rfl, ht2⟩
        have hfq : fe p = r1N a := by rw [hfp, hf, hr1.out]
        have hz := (Blk.new wa 24 (cellsZ (List.replicate 16 0)).toArray).touch ht2 notin_nil
        have hk2 : Touch [] w1 wb := (hk.alloc _).trans ht2
        refine hK.out _ _ (hk2) (fun hHeld => ?_)
        clear hK K
        refine wpAnyH_ready (rs := [6]) (by kernel_rfl) (by simp) ?_
        refine AllReadyH.cons (o := _) rfl (fun K hK => ?_) AllReadyH.nil
        rw [if_pos (by rfl)]
        refine wp_store_row _ _ _ rfl _ (cellsZ p).toArray rfl rfl 24 _ hz (by rw [cellsZ_size, hp.len]; exact infoE) (by rw [cellsZ_size, cellsZ_size, hp.len]; rfl) (cellsZ_one p) ?_
        refine hK.out _ _ (hk2.setRowE (.inr hk.size) _) (fun hHeld => ?_)
        clear hK K
        refine wpAnyH_done (by kernel_rfl) ?_ _
        go_wp2_with fail
        go_meet
        exact ⟨_, p, rfl, hp, hfq, rootW_set H1.out H2.out H3.out Hga.out hk2 hz hk.size⟩
    · go_simp
      refine hK.out _ _ (hS.alloc _) (fun hHeld => ?_)
      clear hK K
      refine wpAnyH_ready (rs := [2]) (by kernel_rfl) (by simp) ?_
      refine AllReadyH.cons (o := _) rfl (fun K hK => ?_) AllReadyH.nil
      go_simp
      refine (Hp1.out _).mono ?_
      rintro e wa ⟨q, hq, hf, rfl, ht⟩
      have hz0 := (Blk.new w1.drew 24 (cellsZ (List.replicate 16 0)).toArray).touch ht notin_nil
      have hk : Touch [] w1 wa := (hS.alloc _).trans ht
      refine hK.out _ _ (hk) (fun hHeld => ?_)
      clear hK K
      refine wpAnyH_ready (rs := [4]) (by kernel_rfl) (by simp) ?_
      refine AllReadyH.cons (o := _) rfl (fun K hK => ?_) AllReadyH.nil
      go_simp
      refine (Hm1.out q hq _).mono ?_
      rintro e wb ⟨p, hp, hfp, rfl, ht2⟩
      have hfq : fe p = r1N a := by rw [hfp, hf, hr1.out]
      have hz := Blk.touch hz0 ht2 notin_nil
      have hk2 : Touch [] w1 wb := hk.trans ht2
      refine hK.out _ _ (hk2) (fun hHeld => ?_)
      clear hK K
      refine wpAnyH_ready (rs := [6]) (by kernel_rfl) (by simp) ?_
      refine AllReadyH.cons (o := _) rfl (fun K hK => ?_) AllReadyH.nil
      rw [if_pos (by rfl)]
      refine wp_store_row _ _ _ rfl _ (cellsZ p).toArray rfl rfl 24 _ hz (by rw [cellsZ_size, hp.len]; exact infoE) (by rw [cellsZ_size, cellsZ_size, hp.len]; rfl) (cellsZ_one p) ?_
      refine hK.out _ _ (hk2.setRowE (.inr (Nat.le_refl _)) _) (fun hHeld => ?_)
      clear hK K
      refine wpAnyH_done (by kernel_rfl) ?_ _
      go_wp2_with fail
      go_meet
      exact ⟨_, p, rfl, hp, hfq, rootW_set H1.out H2.out H3.out Hga.out hk2 hz (Nat.le_refl _)⟩
  case rest =>
    obtain ⟨gc, q, rfl, hq, hfq, hW⟩ := hcut
    have Hm2 := Lib.hid (fun W => show Calls Try.prog 28 #[.agg (cellsZ q).toArray, .agg (cellsZ q).toArray] W (EPost (mulF (r1N a) (r1N a)) W) from hfq ▸ mul_any q q hq hq W)
    obtain ⟨B1, hB1⟩ : ∃ b, b = decide (mulF (r1N a) (r1N a) = a) := ⟨_, rfl⟩
    have Hs3 := Lib.hid (fun (q : List Int) (h1 : Red q) (h2 : fe q = mulF (r1N a) (r1N a)) W => hB1 ▸ Hs1.out q _ h1 h2 W)
    have HB1 := Lib.hid hB1
    have Hq := Lib.hid hq
    have Hfq := Lib.hid hfq
    have HW := Lib.hid hW
    clear hB1 hq hfq hW
    go_upto_region 2 with fail
    have hS : Touch [] wc wc.drew := (Touch.refl _ _).drew
    have rc := Lib.hid (range_far HW.out.bc)
    have ra := Lib.hid (range_far HW.out.ba)
    have il := Lib.hid (infoL Hl.out)
    have iq := Lib.hid (infoL Hq.out)
    refine wp_region_held_drew (S := fun W => Touch [] wc W) (by kernel_rfl) hS (fun hHeld => ?_)
    refine' wpAnyH_take (i := 0) (v := _) rfl (by kernel_rfl) (by kernel_rfl) (by kernel_rfl) (fun _ _ _ h => h) (yieldsIf_load_mid (by rfl) _ _ rfl _ _ rfl _ _ (rc.out) Try.underlying24 rfl (iq.out)) hHeld ?_
    refine' wpAnyH_take (i := 1) (v := _) rfl (by kernel_rfl) (by kernel_rfl) (by kernel_rfl) (fun _ _ _ h => h) (yieldsIf_load_mid (by rfl) _ _ rfl _ _ rfl _ _ (rc.out) Try.underlying24 rfl (iq.out)) hHeld ?_
    refine' wpAnyH_take (i := 3) (v := _) rfl (by kernel_rfl) (by kernel_rfl) (by kernel_rfl) (fun _ _ _ h => h) (yieldsIf_load_mid (by rfl) _ _ rfl _ _ rfl _ _ (ra.out) Try.underlying24 rfl (il.out)) hHeld ?_
    refine wpAnyH_ready (rs := [2]) (by kernel_rfl) (by simp) ?_
    refine AllReadyH.cons (o := _) rfl (fun K hK => ?_) AllReadyH.nil
    go_simp
    refine (Hm2.out _).mono ?_
    rintro e wa ⟨p, hp, hfp, rfl, ht⟩
    have hk : Touch [] wc wa := hS.trans ht
    refine hK.out _ _ (hk) (fun hHeld => ?_)
    clear hK K
    refine wpAnyH_ready (rs := [4]) (by kernel_rfl) (by simp) ?_
    refine AllReadyH.cons (o := _) rfl (fun K hK => ?_) AllReadyH.nil
    go_simp
    refine (Hs3.out _ hp hfp _).mono ?_
    rintro e wb ⟨rfl, ht2⟩
    have hk2 : Touch [] wc wb := hk.trans ht2
    refine hK.out _ _ (hk2) (fun hHeld => ?_)
    clear hK K
    refine wpAnyH_ready (rs := [5]) (by kernel_rfl) (by simp) ?_
    refine AllReadyH.cons (o := _) rfl (fun K hK => ?_) AllReadyH.nil
    go_simp
    refine hK.out _ _ (hk2) (fun hHeld => ?_)
    clear hK K
    refine wpAnyH_done (by kernel_rfl) ?_ _
    have HW2 := Lib.hid (HW.out.more hk2)
    clear hS hHeld hk hk2 ht ht2 hp hfp HW rc ra il iq
    rename World => w2
    go_upto_if 15 with fail
    go_cut [] (fun wx => ∃ q2, Red q2 ∧ fe q2 = r2N a ∧ RootW w ga gc l q2 wx)
    case first =>
      cases B1 with
      | true =>
        have H1r := Lib.hid (show r2N a = r1N a by rw [hr2.out, if_pos (of_decide_eq_true HB1.out.symm)])
        go_wp2_with fail
        go_meet
        exact ⟨q, Hq.out, by rw [H1r.out]; exact Hfq.out, HW2.out⟩
      | false =>
        have H1r := Lib.hid (show r2N a = mulF (r1N a) X2 by rw [hr2.out, if_neg (of_decide_eq_false HB1.out.symm)])
        have Hm3 := Lib.hid (fun (p : List Int) (hp : Red p) (hf : fe p = X2) W => show Calls Try.prog 28 #[.agg (cellsZ q).toArray, elV p] W (EPost (r2N a) W) from by
          have h := mul_any q p Hq.out hp W
          rw [Hfq.out, hf, ← H1r.out] at h
          exact h)
        go_upto_region 3 with fail
        have hS : Touch [] w2 w2.drew := (Touch.refl _ _).drew
        refine wp_region_held_drew (S := fun _ => True) (by kernel_rfl) trivial (fun hHeld => ?_)
        refine' wpAnyH_take (i := 1) (v := .agg #[.int .i64 252, .func (Fn.func 59) #[] #[]]) rfl (by kernel_rfl) (by kernel_rfl) (by kernel_rfl) (fun _ _ _ h => h) (.inl ⟨by rfl, fun W _ => by go_simp⟩) hHeld ?_
        refine wpAnyH_ready (rs := [0, 2]) (by kernel_rfl) (by simp) ?_
        refine AllReadyH.cons (o := _) rfl (fun K hK => ?_) (AllReadyH.cons (o := _) rfl (fun K hK => ?_) AllReadyH.nil)
        · rw [if_pos (by rfl)]
          refine wp_load_row _ _ rfl gc rfl 24 (cellsZ q).toArray (0, 0) _ (HW2.out.bc.drew) Try.underlying24 rfl (by rw [cellsZ_size, Hq.out.len]; exact infoE) ?_
          refine hK.out _ _ (trivial) (fun hHeld => ?_)
          clear hK K
          refine wpAnyH_ready (rs := [2]) (by kernel_rfl) (by simp) ?_
          refine AllReadyH.cons (o := _) rfl (fun K hK => ?_) AllReadyH.nil
          go_simp
          refine (Hn2.out _).mono ?_
          rintro e wa ⟨p2, hp2, hf2, rfl, ht⟩
          have hk : Touch [] w2 wa := hS.trans ht
          refine hK.out _ _ (trivial) (fun hHeld => ?_)
          clear hK K
          refine wpAnyH_ready (rs := [3]) (by kernel_rfl) (by simp) ?_
          refine AllReadyH.cons (o := _) rfl (fun K hK => ?_) AllReadyH.nil
          go_simp
          refine (Hp2.out _ hp2 hf2 _).mono ?_
          rintro e wb ⟨p3, hp3, hf3, rfl, ht2⟩
          have hk2 : Touch [] w2 wb := hk.trans ht2
          refine hK.out _ _ (trivial) (fun hHeld => ?_)
          clear hK K
          refine wpAnyH_ready (rs := [4]) (by kernel_rfl) (by simp) ?_
          refine AllReadyH.cons (o := _) rfl (fun K hK => ?_) AllReadyH.nil
          go_simp
          refine (Hm3.out _ hp3 hf3 _).mono ?_
          rintro e wd ⟨p4, hp4, hf4, rfl, ht3⟩
          have hk3 : Touch [] w2 wd := hk2.trans ht3
          refine hK.out _ _ (trivial) (fun hHeld => ?_)
          clear hK K
          refine wpAnyH_ready (rs := [5]) (by kernel_rfl) (by simp) ?_
          refine AllReadyH.cons (o := _) rfl (fun K hK => ?_) AllReadyH.nil
          rw [if_pos (by rfl)]
          refine wp_store_row _ _ _ rfl gc (cellsZ p4).toArray rfl rfl 24 _ (Blk.touch HW2.out.bc hk3 notin_nil) (by rw [cellsZ_size, hp4.len]; exact infoE) (by rw [cellsZ_size, cellsZ_size, hp4.len]; exact Hq.out.len) (cellsZ_one p4) ?_
          refine hK.out _ _ (trivial) (fun hHeld => ?_)
          clear hK K
          refine wpAnyH_done (by kernel_rfl) ?_ _
          go_wp2_with fail
          go_meet
          exact ⟨p4, hp4, hf4, (HW2.out.more hk3).setC p4⟩
        · go_simp
          refine (Hn2.out _).mono ?_
          rintro e wa ⟨p2, hp2, hf2, rfl, ht⟩
          have hk : Touch [] w2 wa := hS.trans ht
          refine hK.out _ _ (trivial) (fun hHeld => ?_)
          clear hK K
          refine wpAnyH_ready (rs := [0, 3]) (by kernel_rfl) (by simp) ?_
          refine AllReadyH.cons (o := _) rfl (fun K hK => ?_) (AllReadyH.cons (o := _) rfl (fun K hK => ?_) AllReadyH.nil)
          · rw [if_pos (by rfl)]
            refine wp_load_row _ _ rfl gc rfl 24 (cellsZ q).toArray (0, 0) _ (Blk.touch HW2.out.bc hk notin_nil) Try.underlying24 rfl (by rw [cellsZ_size, Hq.out.len]; exact infoE) ?_
            refine hK.out _ _ (trivial) (fun hHeld => ?_)
            clear hK K
            refine wpAnyH_ready (rs := [3]) (by kernel_rfl) (by simp) ?_
            refine AllReadyH.cons (o := _) rfl (fun K hK => ?_) AllReadyH.nil
            go_simp
            refine (Hp2.out _ hp2 hf2 _).mono ?_
            rintro e wb ⟨p3, hp3, hf3, rfl, ht2⟩
            have hk2 : Touch [] w2 wb := hk.trans ht2
            refine hK.out _ _ (trivial) (fun hHeld => ?_)
            clear hK K
            refine wpAnyH_ready (rs := [4]) (by kernel_rfl) (by simp) ?_
            refine AllReadyH.cons (o := _) rfl (fun K hK => ?_) AllReadyH.nil
            go_simp
            refine (Hm3.out _ hp3 hf3 _).mono ?_
            rintro e wd ⟨p4, hp4, hf4, rfl, ht3⟩
            have hk3 : Touch [] w2 wd := hk2.trans ht3
            refine hK.out _ _ (trivial) (fun hHeld => ?_)
            clear hK K
            refine wpAnyH_ready (rs := [5]) (by kernel_rfl) (by simp) ?_
            refine AllReadyH.cons (o := _) rfl (fun K hK => ?_) AllReadyH.nil
            rw [if_pos (by rfl)]
            refine wp_store_row _ _ _ rfl gc (cellsZ p4).toArray rfl rfl 24 _ (Blk.touch HW2.out.bc hk3 notin_nil) (by rw [cellsZ_size, hp4.len]; exact infoE) (by rw [cellsZ_size, cellsZ_size, hp4.len]; exact Hq.out.len) (cellsZ_one p4) ?_
            refine hK.out _ _ (trivial) (fun hHeld => ?_)
            clear hK K
            refine wpAnyH_done (by kernel_rfl) ?_ _
            go_wp2_with fail
            go_meet
            exact ⟨p4, hp4, hf4, (HW2.out.more hk3).setC p4⟩
          · go_simp
            refine (Hp2.out _ hp2 hf2 _).mono ?_
            rintro e wb ⟨p3, hp3, hf3, rfl, ht2⟩
            have hk2 : Touch [] w2 wb := hk.trans ht2
            refine hK.out _ _ (trivial) (fun hHeld => ?_)
            clear hK K
            refine wpAnyH_ready (rs := [0]) (by kernel_rfl) (by simp) ?_
            refine AllReadyH.cons (o := _) rfl (fun K hK => ?_) AllReadyH.nil
            rw [if_pos (by rfl)]
            refine wp_load_row _ _ rfl gc rfl 24 (cellsZ q).toArray (0, 0) _ (Blk.touch HW2.out.bc hk2 notin_nil) Try.underlying24 rfl (by rw [cellsZ_size, Hq.out.len]; exact infoE) ?_
            refine hK.out _ _ (trivial) (fun hHeld => ?_)
            clear hK K
            refine wpAnyH_ready (rs := [4]) (by kernel_rfl) (by simp) ?_
            refine AllReadyH.cons (o := _) rfl (fun K hK => ?_) AllReadyH.nil
            go_simp
            refine (Hm3.out _ hp3 hf3 _).mono ?_
            rintro e wd ⟨p4, hp4, hf4, rfl, ht3⟩
            have hk3 : Touch [] w2 wd := hk2.trans ht3
            refine hK.out _ _ (trivial) (fun hHeld => ?_)
            clear hK K
            refine wpAnyH_ready (rs := [5]) (by kernel_rfl) (by simp) ?_
            refine AllReadyH.cons (o := _) rfl (fun K hK => ?_) AllReadyH.nil
            rw [if_pos (by rfl)]
            refine wp_store_row _ _ _ rfl gc (cellsZ p4).toArray rfl rfl 24 _ (Blk.touch HW2.out.bc hk3 notin_nil) (by rw [cellsZ_size, hp4.len]; exact infoE) (by rw [cellsZ_size, cellsZ_size, hp4.len]; exact Hq.out.len) (cellsZ_one p4) ?_
            refine hK.out _ _ (trivial) (fun hHeld => ?_)
            clear hK K
            refine wpAnyH_done (by kernel_rfl) ?_ _
            go_wp2_with fail
            go_meet
            exact ⟨p4, hp4, hf4, (HW2.out.more hk3).setC p4⟩
    case rest =>
      clear Hq Hfq HW2 Hm2 Hs3 HB1
      obtain ⟨q2, hq, hfq, hW⟩ := hcut
      rename List Int => q
      have Hm2 := Lib.hid (fun W => show Calls Try.prog 28 #[.agg (cellsZ q).toArray, .agg (cellsZ q).toArray] W (EPost (mulF (r2N a) (r2N a)) W) from hfq ▸ mul_any q q hq hq W)
      obtain ⟨B2, hB2⟩ : ∃ b, b = isN a := ⟨_, rfl⟩
      have Hs3 := Lib.hid (fun (q : List Int) (h1 : Red q) (h2 : fe q = mulF (r2N a) (r2N a)) W => (show decide (mulF (r2N a) (r2N a) = a) = B2 by rw [hB2, his.out]) ▸ Hs1.out q _ h1 h2 W)
      have HB2 := Lib.hid hB2
      have Hq := Lib.hid hq
      have Hfq := Lib.hid hfq
      have HW := Lib.hid hW
      clear hB2 hq hfq hW
      rename World => w4
      go_upto_region 4 with fail
      have hS : Touch [] w4 w4.drew := (Touch.refl _ _).drew
      have rc := Lib.hid (range_far HW.out.bc)
      have ra := Lib.hid (range_far HW.out.ba)
      have il := Lib.hid (infoL Hl.out)
      have iq := Lib.hid (infoL Hq.out)
      refine wp_region_held_drew (S := fun W => Touch [] w4 W) (by kernel_rfl) hS (fun hHeld => ?_)
      refine' wpAnyH_take (i := 0) (v := _) rfl (by kernel_rfl) (by kernel_rfl) (by kernel_rfl) (fun _ _ _ h => h) (yieldsIf_load_mid (by rfl) _ _ rfl _ _ rfl _ _ (rc.out) Try.underlying24 rfl (iq.out)) hHeld ?_
      refine' wpAnyH_take (i := 1) (v := _) rfl (by kernel_rfl) (by kernel_rfl) (by kernel_rfl) (fun _ _ _ h => h) (yieldsIf_load_mid (by rfl) _ _ rfl _ _ rfl _ _ (rc.out) Try.underlying24 rfl (iq.out)) hHeld ?_
      refine' wpAnyH_take (i := 3) (v := _) rfl (by kernel_rfl) (by kernel_rfl) (by kernel_rfl) (fun _ _ _ h => h) (yieldsIf_load_mid (by rfl) _ _ rfl _ _ rfl _ _ (ra.out) Try.underlying24 rfl (il.out)) hHeld ?_
      refine wpAnyH_ready (rs := [2]) (by kernel_rfl) (by simp) ?_
      refine AllReadyH.cons (o := _) rfl (fun K hK => ?_) AllReadyH.nil
      go_simp
      refine (Hm2.out _).mono ?_
      rintro e wa ⟨p, hp, hfp, rfl, ht⟩
      have hk : Touch [] w4 wa := hS.trans ht
      refine hK.out _ _ (hk) (fun hHeld => ?_)
      clear hK K
      refine wpAnyH_ready (rs := [4]) (by kernel_rfl) (by simp) ?_
      refine AllReadyH.cons (o := _) rfl (fun K hK => ?_) AllReadyH.nil
      go_simp
      refine (Hs3.out _ hp hfp _).mono ?_
      rintro e wb ⟨rfl, ht2⟩
      have hk2 : Touch [] w4 wb := hk.trans ht2
      refine hK.out _ _ (hk2) (fun hHeld => ?_)
      clear hK K
      refine wpAnyH_ready (rs := [5]) (by kernel_rfl) (by simp) ?_
      refine AllReadyH.cons (o := _) rfl (fun K hK => ?_) AllReadyH.nil
      go_simp
      refine hK.out _ _ (hk2) (fun hHeld => ?_)
      clear hK K
      refine wpAnyH_done (by kernel_rfl) ?_ _
      have HW5 := Lib.hid (HW.out.more hk2)
      clear hS hHeld hk hk2 ht ht2 hp hfp HW rc ra il iq
      rename World => w5
      cases B2 with
      | false =>
        have hr := Lib.hid (show rootN a = 0 from rootN_f a hrn.out HB2.out.symm)
        go_wp2_with (refine wpList_storeE rfl (.tmp 2) (.tmp 27) rfl (ga + 1) rfl (List.replicate 16 0) rfl 24 _ rfl rfl HW5.out.bz ?_)
        exact root_ret Try.results33 red0 (by rw [hr.out, fe0]) rfl (by rw [← HB2.out]; rfl) 24 (HW5.out.bz.setRow _) (HW5.out.touch.setRowE (.inr (by have := HW5.out.new; omega)) _)
      | true =>
        have hr := Lib.hid (show rootN a = if r2N a % 2 = 1 then negF (r2N a) else r2N a from rootN_t a hrn.out HB2.out.symm)
        go_wp2_with (refine wpList_loadE rfl (.tmp 4) rfl gc rfl 24 q Hq.out.len HW5.out.bc ?_)
        refine (odd_any q Hq.out w5).mono ?_
        rintro e w6 ⟨rfl, ht⟩
        have HW6 := Lib.hid (HW5.out.more ht)
        rw [Hfq.out]
        clear ht HW5
        by_cases hodd : r2N a % 2 = 1
        · have hr3 := Lib.hid (show rootN a = negF (r2N a) by rw [hr.out, if_pos hodd])
          rw [decide_eq_true hodd]
          clear hodd
          go_wp2_with (refine wpList_loadE rfl (.tmp 4) rfl gc rfl 24 q Hq.out.len HW6.out.bc ?_)
          refine (neg_anyE q Hq.out w6).mono ?_
          rintro e w7 ⟨p, hp, hfp, rfl, ht⟩
          have Hp := Lib.hid hp
          have Hfp := Lib.hid (show fe p = rootN a by rw [hfp, Hfq.out, hr3.out])
          have HW7 := Lib.hid (HW6.out.more ht)
          have HW8 := Lib.hid ((HW6.out.more ht).setC p)
          clear hp hfp ht HW6
          go_wp2_with (first | (refine wpList_storeE rfl (.tmp 4) (.tmp 31) rfl gc rfl p rfl 24 _ Hp.out.len (by rw [cellsZ_size]; exact Hq.out.len) HW7.out.bc ?_) | (refine wpList_loadE rfl (.tmp 4) rfl gc rfl 24 p Hp.out.len HW8.out.bc ?_) | (refine wpList_storeE rfl (.tmp 2) (.tmp 32) rfl (ga + 1) rfl p rfl 24 _ Hp.out.len rfl HW8.out.bz ?_))
          exact root_ret Try.results33 Hp.out Hfp.out rfl (by rw [← HB2.out]; rfl) 24 (HW8.out.bz.setRow _) (HW8.out.touch.setRowE (.inr (by have := HW8.out.new; omega)) _)
        · have hr3 := Lib.hid (show rootN a = r2N a by rw [hr.out, if_neg hodd])
          rw [decide_eq_false hodd]
          clear hodd
          go_wp2_with (first | (refine wpList_loadE rfl (.tmp 4) rfl gc rfl 24 q Hq.out.len HW6.out.bc ?_) | (refine wpList_storeE rfl (.tmp 2) (.tmp 32) rfl (ga + 1) rfl q rfl 24 _ Hq.out.len rfl HW6.out.bz ?_))
          exact root_ret Try.results33 Hq.out (by rw [Hfq.out, hr3.out]) rfl (by rw [← HB2.out]; rfl) 24 (HW6.out.bz.setRow _) (HW6.out.touch.setRowE (.inr (by have := HW6.out.new; omega)) _)
end Go.Proofs.Ytbgpgbfiadhddaa
