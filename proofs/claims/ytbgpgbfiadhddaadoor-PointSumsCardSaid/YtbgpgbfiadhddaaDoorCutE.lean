/- field.Cut: the number of any bytes. -/
import Derived.Test.YtbgpgbfiadhddaaDoorSmallE2
namespace Go.Proofs.YtbgpgbfiadhddaaDoor
open Go.RowKit
theorem bytes_cellsE (w : World) (e : TypeId) (t : ByteArray) (c j : Nat) (hj : j < t.size) :
    (w.drew.alloc (.cells (bytesRow t c) e ((bytesRow t c).size, (bytesRow t c).size + 1))).cell? ⟨w.heap.size, j, none⟩ = some (.int .u8 (((bl t).getD j 0 : Nat) : Int)) := by
  have hj' : j < t.data.size := hj
  refine (World.cell?_alloc_mark w.drew (bytesRow t c) e ((bytesRow t c).size, (bytesRow t c).size + 1) j).trans ?_
  rw [bytesRow_at t c j hj']
  have hj2 : j < t.data.toList.length := by simpa using hj'
  simp only [bl, List.getD, List.getElem?_map, List.getElem?_eq_getElem hj2]
  simp
theorem bl_extractE (s : ByteArray) (m : Nat) : bl (s.extract 0 m) = (bl s).take m := by
  unfold bl
  simp [ByteArray.data_extract, List.map_take]
theorem i64_or8 (y b : Nat) (hy : y < 256) (hb : b < 256) : bits .or .i64 (y : Int) ((b * 256 : Nat) : Int) = ((y + b * 256 : Nat) : Int) := by
  have h1 : (BitVec.ofInt 64 (y : Int)).toNat = y := by
    rw [BitVec.ofInt_natCast, BitVec.toNat_ofNat]; exact Nat.mod_eq_of_lt (by omega)
  have h2 : (BitVec.ofInt 64 ((b * 256 : Nat) : Int)).toNat = b * 256 := by
    rw [BitVec.ofInt_natCast, BitVec.toNat_ofNat]; exact Nat.mod_eq_of_lt (by omega)
  have h3 := Nat.shiftLeft_add_eq_or_of_lt (i := 8) (b := y) (by omega) b
  rw [Nat.shiftLeft_eq, show 2 ^ 8 = 256 from rfl] at h3
  show IntKind.i64.wrap ((BitVec.ofInt 64 (y : Int) ||| BitVec.ofInt 64 ((b * 256 : Nat) : Int)).toNat : Nat) = _
  rw [BitVec.toNat_or, h1, h2, Nat.or_comm, ← h3, IntKind.wrap_i64]
  omega
theorem i64_or0 (b : Nat) (hb : b < 256) : bits .or .i64 0 (b : Int) = (b : Int) := by
  have h2 : (BitVec.ofInt 64 (b : Int)).toNat = b := by
    rw [BitVec.ofInt_natCast, BitVec.toNat_ofNat]; exact Nat.mod_eq_of_lt (by omega)
  show IntKind.i64.wrap ((BitVec.ofInt 64 0 ||| BitVec.ofInt 64 (b : Int)).toNat : Nat) = _
  rw [BitVec.toNat_or, h2, show (BitVec.ofInt 64 0).toNat = 0 from rfl, Nat.zero_or, IntKind.wrap_i64]
  omega
structure CutA (t : List Nat) (r : List Int) (i : Nat) : Prop where
  len : r.length = 16
  dig : Dig r
  val : vI r = ((leN (t.take i) : Nat) : Int)
theorem CutA.start (t : List Nat) : CutA t (List.replicate 16 0) 0 := ⟨by simp, fun x hx => by have := (List.mem_replicate.1 hx).2; omega, by simp [vI, leN]⟩
theorem take_ltE {l : List Nat} (h : ∀ b ∈ l, b < 256) {j : Nat} (hj : j ≤ l.length) : leN (l.take j) < 256 ^ j := by
  have h1 := leN_lt (l := l.take j) (fun b hb => h b (List.mem_of_mem_take hb))
  rwa [List.length_take, Nat.min_eq_left hj] at h1
/-- An even byte. -/
theorem CutA.even {t : List Nat} {r : List Int} {k : Nat} (h : CutA t r (2 * k)) (ht : ∀ b ∈ t, b < 256) (hk : 2 * k < t.length) (hk16 : k < 16) {b : Nat} (hb : b = t.getD (2 * k) 0) :
    r.getD k 0 = 0 ∧ CutA t (r.set k (b : Int)) (2 * k + 1) := by
  have h1 := h.len
  have hN := take_ltE ht (Nat.le_of_lt hk)
  have e : (256 : Nat) ^ (2 * k) = 2 ^ (16 * k) := by rw [show (256 : Nat) = 2 ^ 8 by decide, ← Nat.pow_mul]; congr 1; omega
  have h0 : r.getD k 0 = 0 := by
    rw [dig_at h.dig _ h.val k (by omega), Nat.div_eq_of_lt (by rw [← e]; exact hN)]; rfl
  have hb256 : b < 256 := by rw [hb, List.getD, List.getElem?_eq_getElem hk]; exact ht _ (List.getElem_mem hk)
  refine ⟨h0, by simp [h1], fun x hx => ?_, ?_⟩
  · rcases List.mem_or_eq_of_mem_set hx with hx | rfl
    · exact h.dig x hx
    · omega
  · have e1 := vI_set (l := r) (k := k) (by omega) (b : Int)
    rw [h0, Int.mul_zero, Int.add_zero, h.val] at e1
    rw [e1, leN_take_succ hk, ← hb, e, Nat.pow_mul]
    simp
/-- An odd byte. -/
theorem CutA.odd {t : List Nat} {r : List Int} {k : Nat} (h : CutA t r (2 * k + 1)) (ht : ∀ b ∈ t, b < 256) (hk : 2 * k + 1 < t.length) (hk16 : k < 16) {b y : Nat} (hb : b = t.getD (2 * k + 1) 0) (hy : y = (r.getD k 0).toNat) :
    r.getD k 0 = (y : Int) ∧ y < 256 ∧ CutA t (r.set k ((y + b * 256 : Nat) : Int)) (2 * (k + 1)) := by
  have h1 := h.len
  have hN := take_ltE ht (Nat.le_of_lt hk)
  have e : (256 : Nat) ^ (2 * k + 1) = 2 ^ (16 * k) * 256 := by
    rw [Nat.pow_succ, show (256 : Nat) ^ (2 * k) = 2 ^ (16 * k) by rw [show (256 : Nat) = 2 ^ 8 by decide, ← Nat.pow_mul]; congr 1; omega]
  have hd := h.dig.at_ k
  have hda := dig_at h.dig _ h.val k (by omega)
  have hq : leN (t.take (2 * k + 1)) / 2 ^ (16 * k) < 256 := Nat.div_lt_of_lt_mul (by rw [e] at hN; exact hN)
  have hyv : r.getD k 0 = (y : Int) := by omega
  generalize leN (t.take (2 * k + 1)) / 2 ^ (16 * k) = Q at hda hq
  have hb256 : b < 256 := by rw [hb, List.getD, List.getElem?_eq_getElem hk]; exact ht _ (List.getElem_mem hk)
  have hy256 : y < 256 := by omega
  refine ⟨hyv, hy256, by simp [h1], fun x hx => ?_, ?_⟩
  · rcases List.mem_or_eq_of_mem_set hx with hx | rfl
    · exact h.dig x hx
    · omega
  · have e1 := vI_set (l := r) (k := k) (by omega) ((y + b * 256 : Nat) : Int)
    rw [hyv, h.val] at e1
    rw [show 2 * (k + 1) = (2 * k + 1) + 1 by omega, leN_take_succ hk, ← hb, e]
    have e2 : ((2 ^ (16 * k) : Nat) : Int) = (65536 : Int) ^ k := by rw [Nat.pow_mul]; simp
    have e3 : ((2 ^ (16 * k) * 256 * b : Nat) : Int) = 65536 ^ k * 256 * b := by rw [Int.natCast_mul, Int.natCast_mul, e2]; rfl
    have e4 : ((leN (t.take (2 * k + 1)) + 2 ^ (16 * k) * 256 * b : Nat) : Int) = ((leN (t.take (2 * k + 1)) : Nat) : Int) + 65536 ^ k * 256 * b := by rw [Int.natCast_add, e3]
    rw [e4]
    have hz : ((y + b * 256 : Nat) : Int) = (y : Int) + b * 256 := by omega
    generalize (y + b * 256 : Nat) = z at *
    rw [hz] at e1
    generalize (65536 : Int) ^ k = P at *
    generalize ((leN (t.take (2 * k + 1)) : Nat) : Int) = N at *
    rw [hz]
    grind
theorem CutA.red {t : List Nat} {r : List Int} {i : Nat} (h : CutA t r i) (hi : t.length ≤ i) : Red r ∧ fe r = leN t % PP := by
  refine ⟨⟨h.len, fun x hx => by have := h.dig x hx; omega⟩, ?_⟩
  unfold fe
  rw [h.val, List.take_of_length_le hi, fz_nat]
/-- The number of the first 32 bytes. -/
def cutN (s : ByteArray) : Nat := leN ((bl s).take 32) % PP
set_option maxRecDepth 100000 in
set_option maxHeartbeats 1000000 in
theorem cut_anyE (s : ByteArray) (w : World) :
    Calls Tryd.prog 27 #[.string s] w (EPost (cutN s) w) := by
  go_enter Tryd.func27, Tryd.ntmps27
  go_upto_region 2 with fail
  rw [← zeroE_eq]
  obtain ⟨w1, hw1⟩ : ∃ w1, w1 = (w.alloc (.cells (cellsZ (List.replicate 16 0)).toArray 25)).alloc (.cells (cellsZ (List.replicate 16 0)).toArray 25) := ⟨_, rfl⟩
  obtain ⟨h1, h2, h3⟩ := box2 w (List.replicate 16 0)
  rw [← hw1] at h1 h2 h3 ⊢
  obtain ⟨ga, hga⟩ : ∃ ga, ga = w.heap.size := ⟨_, rfl⟩
  have Hga := Lib.hid (show w.heap.size ≤ ga by omega)
  rw [← hga] at h1 h2 ⊢
  have hlt2 := h2.lt
  have H1 := Lib.hid h1
  have H2 := Lib.hid h2
  have H3 := Lib.hid h3
  clear hw1 hga h1 h2 h3
  go_cut [11, 12, 13] (fun v17 v18 v19 wx => ∃ (t : ByteArray) (cap gt : Nat), bl t = (bl s).take 32 ∧ t.size ≤ 32 ∧ v17 = .slice (some ⟨gt, 0, none⟩) t.size cap ∧ v18 = .int .i64 (t.size : Int) ∧ v19 = .int .i64 0 ∧ ga + 1 < gt ∧ t.size ≤ cap ∧
    (∀ j, j < t.size → wx.cell? ⟨gt, j, none⟩ = some (.int .u8 (((bl t).getD j 0 : Nat) : Int))) ∧ gt < wx.heap.size ∧ Touch [] w1 wx)
  case first =>
    by_cases hs : s.size ≤ 32
    · have hcv := run_bytes_of_string (P := Tryd.prog) w1 9 62 5 s Tryd.underlying9 Tryd.underlying62 Tryd.underlying5
      have hcap := grownCap_ge w1 s.size 0 5
      have hcell := bytes_cellsE w1 5 s (grownCap w1 s.size 0 5)
      obtain ⟨cap, hc⟩ : ∃ cap, cap = grownCap w1 s.size 0 5 := ⟨_, rfl⟩
      rw [← hc] at hcv hcap hcell
      obtain ⟨W1, hW1⟩ : ∃ W1, W1 = w1.drew.alloc (.cells (bytesRow s cap) 5 ((bytesRow s cap).size, (bytesRow s cap).size + 1)) := ⟨_, rfl⟩
      rw [← hW1] at hcv hcell
      have Hfin : Hid (bl s = (bl s).take 32 ∧ (∀ j, j < s.size → W1.cell? ⟨w1.heap.size, j, none⟩ = some (.int .u8 (((bl s).getD j 0 : Nat) : Int))) ∧ w1.heap.size < W1.heap.size ∧ Touch [] w1 W1) :=
        Lib.hid ⟨by rw [List.take_of_length_le (by rw [bl_len]; omega)], hcell, by rw [hW1]; simp, by rw [hW1]; exact (Touch.refl _ _).drew.alloc _⟩
      have hsi : (s.size : Int) ≤ 32 := by omega
      clear hc hW1 hcell
      go_wp2_with fail
      go_meet
      exact ⟨s, cap, w1.heap.size, Hfin.out.1, by omega, rfl, rfl, rfl, hlt2, hcap, Hfin.out.2.1, Hfin.out.2.2.1, Hfin.out.2.2.2⟩
    · obtain ⟨t, ht⟩ : ∃ t, t = s.extract 0 32 := ⟨_, rfl⟩
      have hts : t.size = 32 := by rw [ht]; simp; omega
      have hbt : bl t = (bl s).take 32 := by rw [ht, bl_extractE]
      have hcv := run_bytes_of_string (P := Tryd.prog) w1 9 62 5 t Tryd.underlying9 Tryd.underlying62 Tryd.underlying5
      have hcap := grownCap_ge w1 t.size 0 5
      have hcell := bytes_cellsE w1 5 t (grownCap w1 t.size 0 5)
      obtain ⟨cap, hc⟩ : ∃ cap, cap = grownCap w1 t.size 0 5 := ⟨_, rfl⟩
      rw [← hc] at hcv hcap hcell
      obtain ⟨W1, hW1⟩ : ∃ W1, W1 = w1.drew.alloc (.cells (bytesRow t cap) 5 ((bytesRow t cap).size, (bytesRow t cap).size + 1)) := ⟨_, rfl⟩
      rw [← hW1] at hcv hcell
      have Hfin : Hid (bl t = (bl s).take 32 ∧ t.size ≤ 32 ∧ t.size ≤ cap ∧ (∀ j, j < t.size → W1.cell? ⟨w1.heap.size, j, none⟩ = some (.int .u8 (((bl t).getD j 0 : Nat) : Int))) ∧ w1.heap.size < W1.heap.size ∧ Touch [] w1 W1) :=
        Lib.hid ⟨hbt, by omega, hcap, hcell, by rw [hW1]; simp, by rw [hW1]; exact (Touch.refl _ _).drew.alloc _⟩
      have Hts := Lib.hid hts
      have hmin1 : ¬ ((s.size : Int) ≤ 32) := by omega
      have hmin2 : (32 : Int) < s.size := by omega
      have hle : (32 : Int) ≤ s.size := by omega
      rw [ht] at hcv
      have Ht := Lib.hid ht
      clear hc hW1 hcell hts hbt hcap ht
      go_wp2_with fail
      go_meet
      have e : min 32 s.size = t.size := by rw [Hts.out]; omega
      rw [e]
      exact ⟨t, cap, w1.heap.size, Hfin.out.1, Hfin.out.2.1, rfl, rfl, rfl, hlt2, Hfin.out.2.2.1, Hfin.out.2.2.2.1, Hfin.out.2.2.2.2.1, Hfin.out.2.2.2.2.2⟩
  case rest =>
    obtain ⟨t, cap, gt, hbt, htz, rfl, rfl, rfl, hne, hcap, hcell, hgt, ht⟩ := hcut
    have Hbt := Lib.hid hbt
    have Hcell := Lib.hid hcell
    have HB := Lib.hid (H1.out.touch ht (by simp))
    have HC := Lib.hid (H2.out.touch ht (by simp))
    have HT := Lib.hid (H3.out.trans ht)
    clear hbt hcell ht H1 H2 H3
    go_wp2_with fail
    go_loopw [13] (fun vi wr => ∃ (i : Nat) (r : List Int), i ≤ t.size ∧ vi = .int .i64 i ∧ CutA (bl t) r i ∧ Blk wr ga 25 (cellsZ (List.replicate 16 0)).toArray ∧ Blk wr (ga + 1) 25 (cellsZ r).toArray ∧
      (∀ j, j < t.size → wr.cell? ⟨gt, j, none⟩ = some (.int .u8 (((bl t).getD j 0 : Nat) : Int))) ∧ Touch [] w wr) (fun vi _ => t.size - (intOf vi).toNat)
    case atStart => exact ⟨0, _, by omega, rfl, CutA.start _, HB.out, HC.out, Hcell.out, HT.out⟩
    case round =>
      clear HB HC Hcell HT
      obtain ⟨i, r, hi, rfl, hA, hB, hC, hL, hT⟩ := hrel
      have HA := Lib.hid hA
      have HB := Lib.hid hB
      have HC := Lib.hid hC
      have HL := Lib.hid hL
      have HT := Lib.hid hT
      clear hA hB hC hL hT
      by_cases hlt : i < t.size
      · obtain ⟨k, hk⟩ : ∃ k, k = i / 2 := ⟨_, rfl⟩
        rcases (show i = 2 * k ∨ i = 2 * k + 1 by omega) with hi2 | hi2
        all_goals have hk16 : k < 16 := by omega
        all_goals clear hk
        · have HI := Lib.hid hi2
          have hq : (i : Int).tdiv 2 = (k : Int) := by rw [Int.tdiv_eq_ediv_of_nonneg (by omega)]; omega
          have hr : (i : Int).tmod 2 = 0 := by rw [Int.tmod_eq_emod_of_nonneg (by omega)]; omega
          have hcw : wr.cell? ⟨ga + 1, k, none⟩ = some (.int .i64 (r.getD k 0)) := by
            rw [HC.out.cell, List.getElem?_toArray]; exact cellsZ_at (by rw [HA.out.len]; omega)
          have hcb : wr.cell? ⟨gt, i, none⟩ = some (.int .u8 (((bl t).getD i 0 : Nat) : Int)) := HL.out i hlt
          have hfr : wr.frozen? ⟨ga + 1, k, none⟩ = false := HC.out.frozen _
          have hb256 : (bl t).getD i 0 < 256 := by
            have hil : i < (bl t).length := by rw [bl_len]; exact hlt
            rw [List.getD, List.getElem?_eq_getElem hil]; exact bl_lt t _ (List.getElem_mem hil)
          have hst := (hi2 ▸ HA.out).even (bl_lt t) (by rw [bl_len]; omega) (by omega) (b := (bl t).getD i 0) (by rw [hi2])
          rw [hst.1] at hcw
          have HS := Lib.hid hst.2
          obtain ⟨b, hb⟩ : ∃ b, b = (bl t).getD i 0 := ⟨_, rfl⟩
          rw [← hb] at hcb hb256 HS
          have hor := i64_or0 b hb256
          clear hst hb hi2
          go_wp2_with fail
          go_region
          go_wp2_with fail
          go_roundw
          case rel =>
            have hC2 := HC.out.set_ k (.int .i64 (b : Int))
            rw [cellsZ_set] at hC2
            have hB2 := HB.out.far (p := ⟨ga + 1, k, none⟩) (by simp) (.int .i64 (b : Int))
            have hT2 := HT.out.setCell (p := ⟨ga + 1, k, none⟩) (.inr (by have := Hga.out; simp only; omega)) (.int .i64 (b : Int))
            have hL2 : ∀ j, j < t.size → (wr.setCell ⟨ga + 1, k, none⟩ (.int .i64 (b : Int))).cell? ⟨gt, j, none⟩ = some (.int .u8 (((bl t).getD j 0 : Nat) : Int)) := fun j hj =>
              (World.cell?_of_block (Below.heap_setCell wr ⟨ga + 1, k, none⟩ _ gt (by simp only; omega))).trans (HL.out j hj)
            have HS2 := HS.out
            rw [← HI.out] at HS2
            first | exact ⟨i + 1, _, by omega, by go_num, HS2, hB2.drew, hC2.drew, hL2, hT2.drew⟩ | ((repeat apply Exists.intro); exact ⟨⟨i + 1, _, by omega, by go_num, HS2, hB2.drew, hC2.drew, hL2, hT2.drew⟩, rfl⟩)
          case measure => simp [intOf]; omega
        · have HI := Lib.hid hi2
          have hq : (i : Int).tdiv 2 = (k : Int) := by rw [Int.tdiv_eq_ediv_of_nonneg (by omega)]; omega
          have hr : (i : Int).tmod 2 = 1 := by rw [Int.tmod_eq_emod_of_nonneg (by omega)]; omega
          have hcw : wr.cell? ⟨ga + 1, k, none⟩ = some (.int .i64 (r.getD k 0)) := by
            rw [HC.out.cell, List.getElem?_toArray]; exact cellsZ_at (by rw [HA.out.len]; omega)
          have hcb : wr.cell? ⟨gt, i, none⟩ = some (.int .u8 (((bl t).getD i 0 : Nat) : Int)) := HL.out i hlt
          have hfr : wr.frozen? ⟨ga + 1, k, none⟩ = false := HC.out.frozen _
          have hb256 : (bl t).getD i 0 < 256 := by
            have hil : i < (bl t).length := by rw [bl_len]; exact hlt
            rw [List.getD, List.getElem?_eq_getElem hil]; exact bl_lt t _ (List.getElem_mem hil)
          have hst := (hi2 ▸ HA.out).odd (bl_lt t) (by rw [bl_len]; omega) (by omega) (b := (bl t).getD i 0) (by rw [hi2]) rfl
          obtain ⟨y, hy⟩ : ∃ y, y = (r.getD k 0).toNat := ⟨_, rfl⟩
          rw [← hy] at hst
          rw [hst.1] at hcw
          have hy256 := hst.2.1
          have HS := Lib.hid hst.2.2
          obtain ⟨b, hb⟩ : ∃ b, b = (bl t).getD i 0 := ⟨_, rfl⟩
          rw [← hb] at hcb hb256 HS
          have hor := i64_or8 y b hy256 hb256
          have e8 : ((b * 256 : Nat) : Int) = (b : Int) * 256 := by omega
          rw [e8] at hor
          obtain ⟨z, hz⟩ : ∃ z, z = y + b * 256 := ⟨_, rfl⟩
          rw [← hz] at hor HS
          clear e8 hy hz
          clear hst hb hi2
          go_wp2_with fail
          go_region
          go_wp2_with fail
          go_roundw
          case rel =>
            have hC2 := HC.out.set_ k (.int .i64 (z : Int))
            rw [cellsZ_set] at hC2
            have hB2 := HB.out.far (p := ⟨ga + 1, k, none⟩) (by simp) (.int .i64 (z : Int))
            have hT2 := HT.out.setCell (p := ⟨ga + 1, k, none⟩) (.inr (by have := Hga.out; simp only; omega)) (.int .i64 (z : Int))
            have hL2 : ∀ j, j < t.size → (wr.setCell ⟨ga + 1, k, none⟩ (.int .i64 (z : Int))).cell? ⟨gt, j, none⟩ = some (.int .u8 (((bl t).getD j 0 : Nat) : Int)) := fun j hj =>
              (World.cell?_of_block (Below.heap_setCell wr ⟨ga + 1, k, none⟩ _ gt (by simp only; omega))).trans (HL.out j hj)
            have HS2 := HS.out
            rw [show 2 * (k + 1) = i + 1 by have := HI.out; omega] at HS2
            first | exact ⟨i + 1, _, by omega, by go_num, HS2, hB2.drew, hC2.drew, hL2, hT2.drew⟩ | ((repeat apply Exists.intro); exact ⟨⟨i + 1, _, by omega, by go_num, HS2, hB2.drew, hC2.drew, hL2, hT2.drew⟩, rfl⟩)
          case measure => simp [intOf]; omega
      · obtain rfl : i = t.size := by omega
        obtain ⟨hr, hfe⟩ := HA.out.red (by rw [bl_len]; exact Nat.le_refl _)
        have Hr := Lib.hid hr
        have Hf := Lib.hid (show fe r = cutN s by rw [hfe, Hbt.out]; rfl)
        clear hr hfe
        go_wp2_with (first | (refine wpList_loadE rfl (.tmp 3) rfl (ga + 1) rfl 25 r Hr.out.len HC.out ?_) | (refine wpList_storeE rfl (.tmp 2) (.tmp 33) rfl ga rfl r rfl 25 _ Hr.out.len rfl HB.out ?_))
        exact elem_ret Tryd.results27 Hr.out Hf.out rfl 25 (HB.out.setRow _) (HT.out.setRowE (.inr Hga.out) _)
end Go.Proofs.YtbgpgbfiadhddaaDoor
