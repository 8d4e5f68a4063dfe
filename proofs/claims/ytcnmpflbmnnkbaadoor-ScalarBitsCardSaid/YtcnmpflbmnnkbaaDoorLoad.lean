/- scalar.load: the words of bytes. -/
import Derived.Test.YtcnmpflbmnnkbaaDoorText
namespace Go.Proofs.YtcnmpflbmnnkbaaDoor
open Go.RowKit
theorem make_words (n : Nat) (hn : n = 4 ∨ n = 8 ∨ n = 9) (w : World) : (Instr.makeSlice 39 (.int .i64 (n : Int)) (.int .i64 (n : Int))).run Tryd.prog w =
    .ok (.slice (some ⟨w.heap.size, 0, none⟩) n n) (w.alloc (.cells (cellsN (List.replicate n 0)).toArray 35)) := by
  rcases hn with rfl | rfl | rfl <;> kernel_rfl
theorem val_zeros (n : Nat) : val (List.replicate n 0) = 0 := by
  induction n with
  | zero => rfl
  | succ n ih => rw [List.replicate_succ, val, ih]
theorem words_zeros (n : Nat) : Words (List.replicate n 0) := fun x hx => by rw [(List.mem_replicate.1 hx).2]; omega
/-- One byte more, in its word. -/
theorem load_step {ws bs : List Nat} {i c : Nat} (hi : i < bs.length) (hw : Words ws) (hb : ∀ b ∈ bs, b < 256) (hl : i / 8 < ws.length) (hv : val ws = leN (bs.take i)) (hc : c = bs.getD i 0) :
    ws.getD (i / 8) 0 < 2 ^ (8 * (i % 8)) ∧ ws.getD (i / 8) 0 + c * 2 ^ (8 * (i % 8)) < 18446744073709551616 ∧
    val (ws.set (i / 8) (ws.getD (i / 8) 0 + c * 2 ^ (8 * (i % 8)))) = leN (bs.take (i + 1)) := by
  have hcb : c < 256 := by
    rw [hc, List.getD, List.getElem?_eq_getElem hi]; exact hb _ (List.getElem_mem hi)
  have hlt : leN (bs.take i) < 256 ^ i := by
    have := leN_lt (l := bs.take i) (fun b h => hb b (List.mem_of_mem_take h))
    rwa [List.length_take, Nat.min_eq_left (by omega)] at this
  have e0 : (256 : Nat) ^ i = 2 ^ (64 * (i / 8)) * 2 ^ (8 * (i % 8)) := by
    rw [show (256 : Nat) = 2 ^ 8 by decide, ← Nat.pow_mul, ← Nat.pow_add]; congr 1; omega
  have h1 : ws.getD (i / 8) 0 < 2 ^ (8 * (i % 8)) := by
    rw [word_at hw _ hl]
    refine Nat.lt_of_le_of_lt (Nat.mod_le _ _) ?_
    rw [Nat.div_lt_iff_lt_mul (Nat.two_pow_pos _), Nat.mul_comm, ← e0, hv]
    exact hlt
  refine ⟨h1, ?_, ?_⟩
  · have e : (18446744073709551616 : Nat) = 2 ^ (8 * (i % 8)) * (256 * 2 ^ (56 - 8 * (i % 8))) := by
      rw [show (256 : Nat) = 2 ^ 8 by decide, ← Nat.pow_add, ← Nat.pow_add, show 8 * (i % 8) + (8 + (56 - 8 * (i % 8))) = 64 by omega]
    have h2 : 1 ≤ 2 ^ (56 - 8 * (i % 8)) := Nat.one_le_two_pow
    have h3 : (c + 1) * 2 ^ (8 * (i % 8)) ≤ 256 * 2 ^ (8 * (i % 8)) := Nat.mul_le_mul_right _ (by omega)
    have h4 : 256 * 2 ^ (8 * (i % 8)) * 1 ≤ 256 * 2 ^ (8 * (i % 8)) * 2 ^ (56 - 8 * (i % 8)) := Nat.mul_le_mul_left _ h2
    rw [Nat.add_mul, Nat.one_mul] at h3
    have e2 : 2 ^ (8 * (i % 8)) * (256 * 2 ^ (56 - 8 * (i % 8))) = 256 * 2 ^ (8 * (i % 8)) * 2 ^ (56 - 8 * (i % 8)) := by rw [← Nat.mul_assoc, Nat.mul_comm (2 ^ (8 * (i % 8))) 256]
    rw [e, e2]
    omega
  · have h2 := val_set hl (ws.getD (i / 8) 0 + c * 2 ^ (8 * (i % 8)))
    rw [leN_take_succ hi, ← hc, e0, ← hv]
    have e1 : (18446744073709551616 : Nat) ^ (i / 8) = 2 ^ (64 * (i / 8)) := by rw [show (18446744073709551616 : Nat) = 2 ^ 64 by decide, ← Nat.pow_mul]
    rw [e1] at h2
    grind
theorem shl_or8 (y c k : Nat) (hy : y < 2 ^ k) (hs : y + c * 2 ^ k < 18446744073709551616) : bits .or .u64 (y : Int) ((c * 2 ^ k : Nat) : Int) = ((y + c * 2 ^ k : Nat) : Int) := by
  have hyw : y < 18446744073709551616 := by omega
  rw [bits_or_u64_nat _ _ hyw (by omega)]
  have h := Nat.shiftLeft_add_eq_or_of_lt (i := k) (b := y) hy c
  rw [Nat.shiftLeft_eq] at h
  rw [Nat.or_comm, ← h, Nat.add_comm]
theorem bytes_cells (w : World) (e : TypeId) (t : ByteArray) (c j : Nat) (hj : j < t.size) :
    (w.drew.alloc (.cells (bytesRow t c) e ((bytesRow t c).size, (bytesRow t c).size + 1))).cell? ⟨w.heap.size, j, none⟩ = some (.int .u8 (((bl t).getD j 0 : Nat) : Int)) := by
  have hj' : j < t.data.size := hj
  refine (World.cell?_alloc_mark w.drew (bytesRow t c) e ((bytesRow t c).size, (bytesRow t c).size + 1) j).trans ?_
  rw [bytesRow_at t c j hj']
  have hj2 : j < t.data.toList.length := by simpa using hj'
  simp only [bl, List.getD, List.getElem?_map, List.getElem?_eq_getElem hj2]
  simp
theorem bl_extract (s : ByteArray) (m : Nat) : bl (s.extract 0 m) = (bl s).take m := by
  unfold bl
  simp [ByteArray.data_extract, List.map_take]
theorem wrap_u64 (x : Nat) (h : x < 18446744073709551616) : IntKind.u64.wrap (x : Int) = x := by simp [IntKind.wrap, IntKind.signed, IntKind.bits]; omega
def LoadPost (s : ByteArray) (n : Nat) (w : World) (e : Ending) (w' : World) : Prop :=
  ∃ (v : Value) (ws : List Nat) (row : Option Nat), e = .returned v ∧ ws.length = n ∧ Words ws ∧ val ws = leN ((bl s).take (8 * n)) ∧ Own w' 35 1 v ws.length (cellsN ws) row ∧ Touch [] w w' ∧ NewRow w none row
set_option maxRecDepth 100000 in
set_option maxHeartbeats 1000000 in
theorem load_any (s : ByteArray) (n : Nat) (hn : n = 4 ∨ n = 8) (w : World) :
    Calls Tryd.prog 26 #[.string s, .int .i64 (n : Int)] w (LoadPost s n w) := by
  have hmk := make_words n (by omega)
  have hn8 : n ≤ 8 := by omega
  have hn0 : 0 < n := by omega
  clear hn
  go_enter Tryd.func26, Tryd.ntmps26
  go_upto_region 2 with fail
  obtain ⟨gb, hgb⟩ : ∃ gb, gb = w.heap.size := ⟨_, rfl⟩
  obtain ⟨w1, hw1⟩ : ∃ w1, w1 = w.alloc (.cells (cellsN (List.replicate n 0)).toArray 35) := ⟨_, rfl⟩
  have hB : Blk w1 gb 35 (cellsN (List.replicate n 0)).toArray := by rw [hw1, hgb]; exact Blk.new _ _ _
  have hT : Touch [] w w1 := by rw [hw1]; exact (Touch.refl _ _).alloc _
  have Hgb := Lib.hid hgb
  rw [← hw1, ← hgb]
  clear hw1 hmk hgb
  go_cut [17, 18, 19] (fun v17 v18 v19 wx => ∃ (t : ByteArray) (cap gt : Nat), bl t = (bl s).take (8 * n) ∧ t.size ≤ 64 ∧ v17 = .slice (some ⟨gt, 0, none⟩) t.size cap ∧ v18 = .int .i64 (t.size : Int) ∧ v19 = .int .i64 0 ∧ gb ≠ gt ∧ t.size ≤ cap ∧
    (∀ j, j < t.size → wx.cell? ⟨gt, j, none⟩ = some (.int .u8 (((bl t).getD j 0 : Nat) : Int))) ∧ gt < wx.heap.size ∧ Touch [] w1 wx)
  case first =>
    have hne : gb ≠ w1.heap.size := by have := hB.lt; omega
    by_cases hs : s.size ≤ 8 * n
    · have hcv := run_bytes_of_string (P := Tryd.prog) w1 9 30 5 s Tryd.underlying9 Tryd.underlying30 Tryd.underlying5
      have hcap := grownCap_ge w1 s.size 0 5
      have hcell := bytes_cells w1 5 s (grownCap w1 s.size 0 5)
      obtain ⟨cap, hc⟩ : ∃ cap, cap = grownCap w1 s.size 0 5 := ⟨_, rfl⟩
      rw [← hc] at hcv hcap hcell
      obtain ⟨W1, hW1⟩ : ∃ W1, W1 = w1.drew.alloc (.cells (bytesRow s cap) 5 ((bytesRow s cap).size, (bytesRow s cap).size + 1)) := ⟨_, rfl⟩
      rw [← hW1] at hcv hcell
      have Hfin : Hid (bl s = (bl s).take (8 * n) ∧ (∀ j, j < s.size → W1.cell? ⟨w1.heap.size, j, none⟩ = some (.int .u8 (((bl s).getD j 0 : Nat) : Int))) ∧ w1.heap.size < W1.heap.size ∧ Touch [] w1 W1) :=
        Lib.hid ⟨by rw [List.take_of_length_le (by rw [bl_len]; omega)], hcell, by rw [hW1]; simp, by rw [hW1]; exact (Touch.refl _ _).drew.alloc _⟩
      clear hc hW1 hcell
      go_wp2_with fail
      go_meet
      exact ⟨s, cap, w1.heap.size, Hfin.out.1, by omega, rfl, rfl, rfl, hne, hcap, Hfin.out.2.1, Hfin.out.2.2.1, Hfin.out.2.2.2⟩
    · obtain ⟨t, ht⟩ : ∃ t, t = s.extract 0 (8 * n) := ⟨_, rfl⟩
      have hts : t.size = 8 * n := by rw [ht]; simp; omega
      have hbt : bl t = (bl s).take (8 * n) := by rw [ht, bl_extract]
      have hcv := run_bytes_of_string (P := Tryd.prog) w1 9 30 5 t Tryd.underlying9 Tryd.underlying30 Tryd.underlying5
      have hcap := grownCap_ge w1 t.size 0 5
      have hcell := bytes_cells w1 5 t (grownCap w1 t.size 0 5)
      obtain ⟨cap, hc⟩ : ∃ cap, cap = grownCap w1 t.size 0 5 := ⟨_, rfl⟩
      rw [← hc] at hcv hcap hcell
      obtain ⟨W1, hW1⟩ : ∃ W1, W1 = w1.drew.alloc (.cells (bytesRow t cap) 5 ((bytesRow t cap).size, (bytesRow t cap).size + 1)) := ⟨_, rfl⟩
      rw [← hW1] at hcv hcell
      have Hfin : Hid (bl t = (bl s).take (8 * n) ∧ t.size ≤ 64 ∧ t.size ≤ cap ∧ (∀ j, j < t.size → W1.cell? ⟨w1.heap.size, j, none⟩ = some (.int .u8 (((bl t).getD j 0 : Nat) : Int))) ∧ w1.heap.size < W1.heap.size ∧ Touch [] w1 W1) :=
        Lib.hid ⟨hbt, by omega, hcap, hcell, by rw [hW1]; simp, by rw [hW1]; exact (Touch.refl _ _).drew.alloc _⟩
      have Hts := Lib.hid hts
      rw [ht] at hcv
      have Ht := Lib.hid ht
      have hmin1 : ¬ ((s.size : Int) ≤ 8 * (n : Int)) := by omega
      clear hc hW1 hcell hts hbt hcap ht
      go_wp2_with fail
      go_meet
      have e : min (8 * n) s.size = t.size := by rw [Hts.out]; omega
      rw [e]
      exact ⟨t, cap, w1.heap.size, Hfin.out.1, Hfin.out.2.1, rfl, rfl, rfl, hne, Hfin.out.2.2.1, Hfin.out.2.2.2.1, Hfin.out.2.2.2.2.1, Hfin.out.2.2.2.2.2⟩
  case rest =>
    obtain ⟨t, cap, gt, hbt, htz, rfl, rfl, rfl, hne, hcap, hcell, hgt, ht⟩ := hcut
    have hB2 := hB.touch ht (by simp)
    have hT2 := hT.trans ht
    have Hbt := Lib.hid hbt
    have Hcell := Lib.hid hcell
    clear hB hT ht hbt hcell
    go_wp2_with fail
    go_loopw [19] (fun vi wr => ∃ (i : Nat) (ws : List Nat), i ≤ t.size ∧ vi = .int .i64 i ∧ ws.length = n ∧ Words ws ∧ val ws = leN ((bl t).take i) ∧ Blk wr gb 35 (cellsN ws).toArray ∧
      (∀ j, j < t.size → wr.cell? ⟨gt, j, none⟩ = some (.int .u8 (((bl t).getD j 0 : Nat) : Int))) ∧ Touch [] w wr) (fun vi _ => t.size - (intOf vi).toNat)
    case atStart => exact ⟨0, List.replicate n 0, by omega, rfl, by simp, words_zeros n, by rw [val_zeros]; simp [leN], hB2, Hcell.out, hT2⟩
    case round =>
      obtain ⟨i, ws, hi, rfl, hl, hw, hv, hB', hc', hT'⟩ := hrel
      clear hB2 hT2
      have Hl := Lib.hid hl
      have Hw := Lib.hid hw
      have Hv := Lib.hid hv
      have HB := Lib.hid hB'
      have HC := Lib.hid hc'
      have HT := Lib.hid hT'
      clear hl hw hv hB' hc' hT'
      have hbn : t.size ≤ 8 * n := by
        have := congrArg List.length Hbt.out
        rw [bl_len, List.length_take] at this
        omega
      by_cases hlt : i < t.size
      · have hi8 : i / 8 < n := by omega
        have hcw : wr.cell? ⟨gb, i / 8, none⟩ = some (.int .u64 ((ws.getD (i / 8) 0 : Nat) : Int)) := by
          rw [HB.out.cell, List.getElem?_toArray]; exact cellsN_at (by rw [Hl.out]; exact hi8)
        have hcb : wr.cell? ⟨gt, i, none⟩ = some (.int .u8 (((bl t).getD i 0 : Nat) : Int)) := HC.out i hlt
        have hfr : wr.frozen? ⟨gb, i / 8, none⟩ = false := HB.out.frozen _
        have hcb256 : (bl t).getD i 0 < 256 := by
          have hil : i < (bl t).length := by rw [bl_len]; exact hlt
          rw [List.getD, List.getElem?_eq_getElem hil]; exact bl_lt t _ (List.getElem_mem hil)
        obtain ⟨h1, h2, h3⟩ := load_step (c := (bl t).getD i 0) (by rw [bl_len]; exact hlt) Hw.out (bl_lt t) (by rw [Hl.out]; exact hi8) Hv.out rfl
        have hor := shl_or8 _ _ _ h1 h2
        obtain ⟨y, hy⟩ : ∃ y, y = ws.getD (i / 8) 0 := ⟨_, rfl⟩
        obtain ⟨b, hb⟩ : ∃ b, b = (bl t).getD i 0 := ⟨_, rfl⟩
        rw [← hy] at hcw h1 h2 h3 hor
        rw [← hb] at hcb h2 h3 hor hcb256
        have hq : (i : Int).tdiv 8 = ((i / 8 : Nat) : Int) := by rw [Int.tdiv_eq_ediv_of_nonneg (by omega)]; omega
        have hr : (i : Int).tmod 8 = ((i % 8 : Nat) : Int) := by rw [Int.tmod_eq_emod_of_nonneg (by omega)]; omega
        have hb64 : b * 2 ^ (8 * (i % 8)) < 18446744073709551616 := by omega
        have Hor := Lib.hid hor
        have H2 := Lib.hid h2
        have H3 := Lib.hid h3
        have H64 := Lib.hid hb64
        clear hy hb h1 h2 h3 hor hb64
        go_wp2_with fail
        go_region
        go_wp2_with fail
        go_roundw
        case rel =>
          have hz : bits .or .u64 (y : Int) (IntKind.u64.wrap ((b : Int) * 2 ^ (8 * (i % 8)))) = ((y + b * 2 ^ (8 * (i % 8)) : Nat) : Int) := by
            have e : ((b : Int) * 2 ^ (8 * (i % 8))) = ((b * 2 ^ (8 * (i % 8)) : Nat) : Int) := by simp
            rw [e, wrap_u64 _ H64.out, Hor.out]
          rw [hz]
          have hset : (cellsN ws).toArray.setIfInBounds (i / 8) (.int .u64 ((y + b * 2 ^ (8 * (i % 8)) : Nat) : Int)) = (cellsN (ws.set (i / 8) (y + b * 2 ^ (8 * (i % 8))))).toArray := by rw [← cellsN_set]; simp
          have hB3 := HB.out.set_ (i / 8) (.int .u64 ((y + b * 2 ^ (8 * (i % 8)) : Nat) : Int))
          rw [hset] at hB3
          have hC3 : ∀ j, j < t.size → (wr.setCell ⟨gb, i / 8, none⟩ (.int .u64 ((y + b * 2 ^ (8 * (i % 8)) : Nat) : Int))).cell? ⟨gt, j, none⟩ = some (.int .u8 (((bl t).getD j 0 : Nat) : Int)) := fun j hj =>
            (World.cell?_of_block (Below.heap_setCell wr ⟨gb, i / 8, none⟩ _ gt (Ne.symm hne))).trans (HC.out j hj)
          exact ⟨i + 1, ws.set (i / 8) (y + b * 2 ^ (8 * (i % 8))), by omega, by go_num, by rw [List.length_set]; exact Hl.out, Hw.out.set _ H2.out, H3.out, hB3.drew, hC3, (HT.out.setCell (p := ⟨gb, i / 8, none⟩) (.inr (by rw [Hgb.out]; exact Nat.le_refl _)) _).drew⟩
        case measure => simp [intOf]; omega
      · obtain rfl : i = t.size := by omega
        go_wp2_with fail
        go_ret
        have hvv : val ws = leN ((bl s).take (8 * n)) := by
          have h := Hv.out
          rw [List.take_of_length_le (by rw [bl_len]; exact Nat.le_refl _), Hbt.out] at h
          exact h
        refine ⟨.slice (some ⟨gb, 0, none⟩) n n, ws, some gb, rfl, Hl.out, Hw.out, hvv, ⟨by rw [cellsN_len, Nat.mul_one], .inr ⟨gb, 0, n, _, by rw [Hl.out], rfl, HB.out, hn0, by rw [Hl.out]; exact Nat.le_refl _, by unfold maxLen; omega, by simp [cellsN_len, Hl.out], fun j u hj => by rw [Nat.zero_add, List.getElem?_toArray]; exact hj⟩⟩, HT.out, .fresh _ _ (by rw [Hgb.out]; exact Nat.le_refl _)⟩
end Go.Proofs.YtcnmpflbmnnkbaaDoor
