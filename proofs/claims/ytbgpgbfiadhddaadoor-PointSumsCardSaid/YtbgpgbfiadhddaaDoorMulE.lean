/- (field.Elem).Mul. -/
import Derived.Test.YtbgpgbfiadhddaaDoorMulA
namespace Go.Proofs.YtbgpgbfiadhddaaDoor
open Go.RowKit
/-- The blocks of a product under way. -/
structure MulW (w : World) (ga : Nat) (l m t : List Int) (wr : World) : Prop where
  ba : Blk wr ga 25 (cellsZ l).toArray
  bb : Blk wr (ga + 1) 25 (cellsZ m).toArray
  bc : Blk wr (ga + 2) 25 (cellsZ (List.replicate 16 0)).toArray
  bt : Blk wr (ga + 3) 83 (cellsZ t).toArray
  touch : Touch [] w wr
theorem MulW.setT {w wr : World} {ga : Nat} {l m t : List Int} (h : MulW w ga l m t wr) (hg : w.heap.size ≤ ga) (k : Nat) (x : Int) : MulW w ga l m (t.set k x) (wr.setCell ⟨ga + 3, k, none⟩ (.int .i64 x)) :=
  ⟨h.ba.far (p := ⟨ga + 3, k, none⟩) (by simp) _, h.bb.far (p := ⟨ga + 3, k, none⟩) (by simp) _, h.bc.far (p := ⟨ga + 3, k, none⟩) (by simp) _, by rw [← cellsZ_set]; exact h.bt.set_ k _, h.touch.setCell (.inr (by simp; omega)) _⟩
theorem MulW.setA {w wr : World} {ga : Nat} {l m t : List Int} (h : MulW w ga l m t wr) (hg : w.heap.size ≤ ga) (k : Nat) (x : Int) : MulW w ga (l.set k x) m t (wr.setCell ⟨ga, k, none⟩ (.int .i64 x)) :=
  ⟨by rw [← cellsZ_set]; exact h.ba.set_ k _, h.bb.far (p := ⟨ga, k, none⟩) (by simp) _, h.bc.far (p := ⟨ga, k, none⟩) (by simp) _, h.bt.far (p := ⟨ga, k, none⟩) (by simp) _, h.touch.setCell (.inr (by simpa using hg)) _⟩
theorem MulW.drew {w wr : World} {ga : Nat} {l m t : List Int} (h : MulW w ga l m t wr) : MulW w ga l m t wr.drew := ⟨h.ba, h.bb, h.bc, h.bt, h.touch.drew⟩
theorem MulW.carried {w wr w' : World} {ga : Nat} {l m t q : List Int} (h : MulW w ga l m t wr) (hg : w.heap.size ≤ ga) (hq : Blk w' ga 25 (cellsZ q).toArray) (ht : Touch [ga] wr w') : MulW w ga q m t w' :=
  ⟨hq, h.bb.touch ht (by simp), h.bc.touch ht (by simp), h.bt.touch ht (by simp), touch_newE h.touch ht hg⟩
theorem MulW.start (w : World) (l m : List Int) : MulW w w.heap.size l m (List.replicate 32 0) ((((w.alloc (.cells (cellsZ l).toArray 25)).alloc (.cells (cellsZ m).toArray 25)).alloc (.cells (cellsZ (List.replicate 16 0)).toArray 25)).alloc (.cells (cellsZ (List.replicate 32 0)).toArray 83)) := by
  refine ⟨(((Blk.new _ _ _).alloc _).alloc _).alloc _, ?_, ?_, ?_, ((((Touch.refl _ _).alloc _).alloc _).alloc _).alloc _⟩
  · have := ((Blk.new (w.alloc (.cells (cellsZ l).toArray 25)) 25 (cellsZ m).toArray).alloc (.cells (cellsZ (List.replicate 16 0)).toArray 25)).alloc (.cells (cellsZ (List.replicate 32 0)).toArray 83)
    simpa using this
  · have := (Blk.new ((w.alloc (.cells (cellsZ l).toArray 25)).alloc (.cells (cellsZ m).toArray 25)) 25 (cellsZ (List.replicate 16 0)).toArray).alloc (.cells (cellsZ (List.replicate 32 0)).toArray 83)
    simpa using this
  · have := Blk.new (((w.alloc (.cells (cellsZ l).toArray 25)).alloc (.cells (cellsZ m).toArray 25)).alloc (.cells (cellsZ (List.replicate 16 0)).toArray 25)) 83 (cellsZ (List.replicate 32 0)).toArray
    simpa using this
set_option maxRecDepth 100000 in
set_option maxHeartbeats 2000000 in
theorem mul_any (l m : List Int) (hl : Red l) (hm : Red m) (w : World) :
    Calls Tryd.prog 23 #[elV l, elV m] w (EPost (mulF (fe l) (fe m)) w) := by
  have Hl := Lib.hid hl
  have Hm := Lib.hid hm
  clear hl hm
  unfold elV
  go_enter Tryd.func23, Tryd.ntmps23
  go_upto_region 2 with fail
  rw [← zeroE_eq, ← zero32_eq]
  have hW := MulW.start w l m
  obtain ⟨w1, hw1⟩ : ∃ w1, w1 = ((((w.alloc (.cells (cellsZ l).toArray 25)).alloc (.cells (cellsZ m).toArray 25)).alloc (.cells (cellsZ (List.replicate 16 0)).toArray 25)).alloc (.cells (cellsZ (List.replicate 32 0)).toArray 83)) := ⟨_, rfl⟩
  rw [← hw1] at hW ⊢
  obtain ⟨ga, hga⟩ : ∃ ga, ga = w.heap.size := ⟨_, rfl⟩
  have Hga := Lib.hid (show w.heap.size ≤ ga by omega)
  rw [← hga] at hW ⊢
  have HW := Lib.hid hW
  clear hW hw1 hga
  go_wp2_with (refine wpList_loadA rfl (.tmp 11) rfl ga rfl 25 l Hl.out.len HW.out.ba ?_)
  go_loopw [13] (fun vi wr => ∃ (i : Nat) (t : List Int), i ≤ 16 ∧ vi = .int .i64 i ∧ MulA l m t i ∧ MulW w ga l m t wr) (fun vi _ => 16 - (intOf vi).toNat)
  case atStart => exact ⟨0, List.replicate 32 0, by omega, rfl, MulA.start, HW.out⟩
  case round =>
    clear HW
    obtain ⟨i, t, hi, rfl, hA, hW⟩ := hrel
    have HA := Lib.hid hA
    have HW := Lib.hid hW
    clear hA hW
    by_cases hi16 : i < 16
    · have hix := index16 l Hl.out.len i hi16
      have hxb := Hl.out.bnd.at_ (by decide) i
      obtain ⟨x, hx⟩ : ∃ x, x = l.getD i 0 := ⟨_, rfl⟩
      rw [← hx] at hix hxb
      have Hx := Lib.hid hx
      have Hxb := Lib.hid hxb
      have hxb1 := hxb.1
      have hxb2 := hxb.2
      clear hx hxb
      have hdi : decide ((i : Int) < 16) = true := decide_eq_true (by omega)
      go_wp2_with (refine wpList_loadA rfl (.tmp 17) rfl (ga + 1) rfl 25 m Hm.out.len HW.out.bb ?_)
      clear hix
      go_loopw [19] (fun vj wr => ∃ (j : Nat) (t : List Int), j ≤ 16 ∧ vj = .int .i64 j ∧ MulB l m t i x j ∧ MulW w ga l m t wr) (fun vj _ => 16 - (intOf vj).toNat)
      case atStart => exact ⟨0, t, by omega, rfl, HA.out.inner x, HW.out⟩
      case round =>
        clear HA HW
        obtain ⟨j, t, hj, rfl, hA, hW⟩ := hrel
        have HA := Lib.hid hA
        have HW := Lib.hid hW
        clear hA hW
        by_cases hj16 : j < 16
        · have hiy := index16 m Hm.out.len j hj16
          have hyb := Hm.out.bnd.at_ (by decide) j
          have hct : wr.cell? ⟨ga + 3, i + j, none⟩ = some (.int .i64 (t.getD (i + j) 0)) := by
            rw [HW.out.bt.cell, List.getElem?_toArray]; exact cellsZ_at (by rw [HA.out.len]; omega)
          have hf : wr.frozen? ⟨ga + 3, i + j, none⟩ = false := HW.out.bt.frozen _
          have hub := HA.out.big hi16 (by omega) (i + j)
          have hst := fun y u => HA.out.step hi16 hj16 Hm.out Hxb.out (y := y) (u := u)
          obtain ⟨y, hy⟩ : ∃ y, y = m.getD j 0 := ⟨_, rfl⟩
          obtain ⟨u, hu⟩ : ∃ u, u = t.getD (i + j) 0 := ⟨_, rfl⟩
          have HS := Lib.hid (hst y u hy hu)
          rw [← hy] at hiy hyb
          rw [← hu] at hct hub
          clear hst hy hu
          obtain ⟨hp1, hp2⟩ := mul_dig Hxb.out hyb
          obtain ⟨hy1, hy2⟩ := hyb
          obtain ⟨hu1, hu2⟩ := hub
          go_wp2_with fail
          go_roundw
          case rel =>
            have hW2 := HW.out.setT Hga.out (i + j) (u + x * y)
            first | exact ⟨j + 1, _, by omega, by go_num, HS.out, hW2⟩ | ((repeat apply Exists.intro); exact ⟨⟨j + 1, _, by omega, by go_num, HS.out, hW2⟩, rfl⟩)
          case measure => simp [intOf]; omega
        · obtain rfl : j = 16 := by omega
          have HN := Lib.hid (HA.out.outer hi16 Hl.out Hm.out Hx.out)
          go_wp2_with fail
          go_roundw
          case rel => exact ⟨i + 1, t, by omega, by go_num, HN.out, HW.out⟩
          case measure => simp [intOf]; omega
    · obtain rfl : i = 16 := by omega
      go_wp2_with fail
      go_loopw [35] (fun vk wr => ∃ (k : Nat) (r : List Int), k ≤ 16 ∧ vk = .int .i64 k ∧ FoldA t l r k ∧ MulW w ga r m t wr) (fun vk _ => 16 - (intOf vk).toNat)
      case atStart => exact ⟨0, l, by omega, rfl, FoldA.start Hl.out, HW.out⟩
      case round =>
        clear HW
        obtain ⟨k, r, hk, rfl, hF, hW⟩ := hrel
        have HF := Lib.hid hF
        have HW := Lib.hid hW
        clear hF hW
        by_cases hk16 : k < 16
        · have hc0 : wr.cell? ⟨ga + 3, k, none⟩ = some (.int .i64 (t.getD k 0)) := by
            rw [HW.out.bt.cell, List.getElem?_toArray]; exact cellsZ_at (by rw [HA.out.len]; omega)
          have hc1 : wr.cell? ⟨ga + 3, k + 16, none⟩ = some (.int .i64 (t.getD (k + 16) 0)) := by
            rw [HW.out.bt.cell, List.getElem?_toArray]; exact cellsZ_at (by rw [HA.out.len]; omega)
          have hc2 : wr.cell? ⟨ga, k, none⟩ = some (.int .i64 (r.getD k 0)) := by
            rw [HW.out.ba.cell, List.getElem?_toArray]; exact cellsZ_at (by rw [HF.out.len]; omega)
          have hf : wr.frozen? ⟨ga, k, none⟩ = false := HW.out.ba.frozen _
          have hxb := FoldA.xy HA.out k
          have hyb := FoldA.xy HA.out (k + 16)
          have hst := fun x y => HF.out.step HA.out hk16 (x := x) (y := y)
          obtain ⟨x, hx⟩ : ∃ x, x = t.getD k 0 := ⟨_, rfl⟩
          obtain ⟨y, hy⟩ : ∃ y, y = t.getD (k + 16) 0 := ⟨_, rfl⟩
          have HS := Lib.hid (hst x y hx hy)
          rw [← hx] at hc0 hxb
          rw [← hy] at hc1 hyb
          clear hst hx hy
          obtain ⟨hx1, hx2⟩ := hxb
          obtain ⟨hy1, hy2⟩ := hyb
          go_wp2_with fail
          go_region
          go_wp2_with fail
          go_roundw
          case rel =>
            have hW2 := (HW.out.setA Hga.out k (x + 38 * y)).drew
            first | exact ⟨k + 1, _, by omega, by go_num, HS.out, hW2⟩ | ((repeat apply Exists.intro); exact ⟨⟨k + 1, _, by omega, by go_num, HS.out, hW2⟩, rfl⟩)
          case measure => simp [intOf]; omega
        · obtain rfl : k = 16 := by omega
          go_wp2_with fail
          refine (carry_any ga r HF.out.len (HF.out.bnd.mono (by omega)) wr HW.out.ba).mono ?_
          rintro e w5 ⟨rfl, q, hq, hA5, hT5⟩
          have HW5 := Lib.hid (HW.out.carried Hga.out hA5 hT5)
          have Hq := Lib.hid hq
          clear hA5 hT5 hq
          go_wp2_with fail
          refine (carry_any ga q Hq.out.len ((Hq.out.bound HF.out.len HF.out.bnd (C := 999999999) (by omega) (by omega)).mono (by omega)) w5 HW5.out.ba).mono ?_
          rintro e w6 ⟨rfl, s, hs, hA6, hT6⟩
          have HW6 := Lib.hid (HW5.out.carried Hga.out hA6 hT6)
          obtain ⟨hr, hf⟩ := HF.out.red HA.out Hl.out Hq.out hs
          have Hr := Lib.hid hr
          have Hf := Lib.hid hf
          clear hA6 hT6 hs hr hf
          go_wp2_with (first | (refine wpList_loadE rfl (.tmp 2) rfl ga rfl 25 s Hr.out.len HW6.out.ba ?_) | (refine wpList_storeE rfl (.tmp 4) (.tmp 53) rfl (ga + 2) rfl s rfl 25 _ Hr.out.len rfl HW6.out.bc ?_))
          have HC6 := HW6.out.bc.setRow (cellsZ s).toArray
          refine bodyPost_ret (results_cell_row Tryd.results23 _ _ (ga + 2) 25 (cellsZ s).toArray (0, 0) _ rfl HC6 Tryd.underlying25 rfl (by rw [cellsZ_size, Hr.out.len]; exact infoE)) rfl ⟨s, Hr.out, Hf.out, rfl, HW6.out.touch.setRowE (.inr (by have := Hga.out; omega)) _⟩
end Go.Proofs.YtbgpgbfiadhddaaDoor
