/- (field.Elem).Add, Sub, Neg. -/
import Derived.Test.YtbgpgbfiadhddaaDoorCarry
import Derived.Test.YtbgpgbfiadhddaaDoorFe2
namespace Go.Proofs.YtbgpgbfiadhddaaDoor
open Go.RowKit
theorem Touch.setRowE {S : List Nat} {a w : World} {g : Nat} (h : Touch S a w) (hg : g ∈ S ∨ a.heap.size ≤ g) (cs : Array Value) : Touch S a (w.setRow g cs) :=
  ⟨h.os, h.tape, h.output, by rw [setRow_size]; exact h.size, fun k hk hn => (setRow_other w g k cs (by
    rintro rfl
    rcases hg with hg | hg
    · exact hn hg
    · omega)).trans (h.block k hk hn)⟩
theorem touch_newE {a b c : World} {gt : Nat} (h : Touch [] a b) (k : Touch [gt] b c) (hg : a.heap.size ≤ gt) : Touch [] a c :=
  ⟨k.os.trans h.os, k.tape.trans h.tape, k.output.trans h.output, Nat.le_trans h.size k.size, fun i hi hni => (k.block i (Nat.lt_of_lt_of_le hi h.size) (by simp; omega)).trans (h.block i hi hni)⟩
theorem Blk.setRow {w : World} {g : Nat} {t : TypeId} {cs : Array Value} (h : Blk w g t cs) (cs' : Array Value) : Blk (w.setRow g cs') g t cs' := setRow_heap w g cs cs' t (0, 0) h
theorem infoE : (Tryd.prog.info? 25).map (·.size) = some 16 := by kernel_rfl
theorem Blk.frow {w : World} {g g' : Nat} {t : TypeId} {cs : Array Value} (h : Blk w g t cs) (hne : g ≠ g') (cs' : Array Value) : Blk (w.setRow g' cs') g t cs := (setRow_other w g' g cs' hne).trans h
section
variable {w : World} {ops : Array Oper} {rest : List Oper} {o : Oper} {a : Act} {Q : Exit → Act → World → Prop}
/-- A number is read. -/
theorem wpList_loadE (hgd : o.guard = none) (x : Operand) (ho : o.op = .load 25 x) (g : Nat) (hx : a.eval x = .pointer (some ⟨g, 0, none⟩)) (t : TypeId) (l : List Int) (hl : l.length = 16) (hB : Blk w g t (cellsZ l).toArray)
    (h : wpList Tryd.prog ops Q rest (a.put o.dst (elV l)) w) : wpList Tryd.prog ops Q (o :: rest) a w :=
  wpList_load_row hgd _ x ho g hx t (cellsZ l).toArray (0, 0) _ hB Tryd.underlying25 rfl (by rw [cellsZ_size, hl]; exact infoE) h
/-- A number is laid. -/
theorem wpList_storeE (hgd : o.guard = none) (x y : Operand) (ho : o.op = .store 25 x y) (g : Nat) (hx : a.eval x = .pointer (some ⟨g, 0, none⟩)) (l : List Int) (hy : a.eval y = elV l) (t : TypeId) (old : Array Value) (hl : l.length = 16) (hs : old.size = 16) (hB : Blk w g t old)
    (h : wpList Tryd.prog ops Q rest (a.put o.dst undef) (w.setRow g (cellsZ l).toArray)) : wpList Tryd.prog ops Q (o :: rest) a w :=
  wpList_store_row hgd _ x y ho g (cellsZ l).toArray hx hy t old hB (by rw [cellsZ_size, hl]; exact infoE) (by rw [cellsZ_size, hl, hs]) (cellsZ_one l) h
end
theorem zeroE_eq : (cellsZ (List.replicate 16 0)).toArray = #[.int .i64 0, .int .i64 0, .int .i64 0, .int .i64 0, .int .i64 0, .int .i64 0, .int .i64 0, .int .i64 0, .int .i64 0, .int .i64 0, .int .i64 0, .int .i64 0, .int .i64 0, .int .i64 0, .int .i64 0, .int .i64 0] := rfl
/-- What a function that gives a number leaves. -/
def EPost (n : Nat) (w : World) (e : Ending) (w' : World) : Prop := ∃ r, Red r ∧ fe r = n ∧ e = .returned (elV r) ∧ Touch [] w w'
set_option maxRecDepth 100000 in
set_option maxHeartbeats 1000000 in
theorem add_any (l m : List Int) (hl : Red l) (hm : Red m) (w : World) :
    Calls Tryd.prog 26 #[elV l, elV m] w (EPost (addF (fe l) (fe m)) w) := by
  have Hl := Lib.hid hl
  have Hm := Lib.hid hm
  clear hl hm
  unfold elV
  go_enter Tryd.func26, Tryd.ntmps26
  go_wp2_with fail
  rw [← zeroE_eq]
  obtain ⟨w1, hw1⟩ : ∃ w1, w1 = ((w.alloc (.cells (cellsZ l).toArray 25)).alloc (.cells (cellsZ m).toArray 25)).alloc (.cells (cellsZ (List.replicate 16 0)).toArray 25) := ⟨_, rfl⟩
  have hA : Blk w1 w.heap.size 25 (cellsZ l).toArray := by rw [hw1]; exact ((Blk.new _ _ _).alloc _).alloc _
  have hB : Blk w1 (w.heap.size + 1) 25 (cellsZ m).toArray := by
    have := (Blk.new (w.alloc (.cells (cellsZ l).toArray 25)) 25 (cellsZ m).toArray).alloc (.cells (cellsZ (List.replicate 16 0)).toArray 25)
    rw [hw1]; simpa using this
  have hC : Blk w1 (w.heap.size + 1 + 1) 25 (cellsZ (List.replicate 16 0)).toArray := by
    have := Blk.new ((w.alloc (.cells (cellsZ l).toArray 25)).alloc (.cells (cellsZ m).toArray 25)) 25 (cellsZ (List.replicate 16 0)).toArray
    rw [hw1]; simpa using this
  have hT : Touch [] w w1 := by rw [hw1]; exact (((Touch.refl _ _).alloc _).alloc _).alloc _
  rw [← hw1]
  obtain ⟨ga, hga⟩ : ∃ ga, ga = w.heap.size := ⟨_, rfl⟩
  have Hga := Lib.hid hga
  rw [← hga] at hA hB hC
  rw [← hga]
  clear hw1 hga
  go_loopw [6] (fun vi wr => ∃ (k : Nat) (r : List Int), k ≤ 16 ∧ vi = .int .i64 k ∧ SumA 1 l m r k ∧ Blk wr ga 25 (cellsZ r).toArray ∧ Blk wr (ga + 1) 25 (cellsZ m).toArray ∧ Blk wr (ga + 1 + 1) 25 (cellsZ (List.replicate 16 0)).toArray ∧ Touch [] w wr) (fun vi _ => 16 - (intOf vi).toNat)
  case atStart => exact ⟨0, l, by omega, rfl, SumA.start Hl.out, hA, hB, hC, hT⟩
  case round =>
    clear hA hB hC hT
    obtain ⟨k, r, hk, rfl, hS, hA, hB, hC, hT⟩ := hrel
    have HS := Lib.hid hS
    have HA := Lib.hid hA
    have HB := Lib.hid hB
    have HC := Lib.hid hC
    have HT := Lib.hid hT
    clear hS hA hB hC hT
    by_cases hk16 : k < 16
    · have hca : wr.cell? ⟨ga, k, none⟩ = some (.int .i64 (r.getD k 0)) := by
        rw [HA.out.cell, List.getElem?_toArray]; exact cellsZ_at (by rw [HS.out.len]; exact hk16)
      have hcb : wr.cell? ⟨ga + 1, k, none⟩ = some (.int .i64 (m.getD k 0)) := by
        rw [HB.out.cell, List.getElem?_toArray]; exact cellsZ_at (by rw [Hm.out.len]; exact hk16)
      have hf : wr.frozen? ⟨ga, k, none⟩ = false := HA.out.frozen k
      obtain ⟨b1, b2, b3, b4⟩ := HS.out.xy Hl.out Hm.out
      have hst := fun x y => HS.out.step hk16 Hl.out Hm.out (by omega) (x := x) (y := y)
      obtain ⟨x, hx⟩ : ∃ x, x = r.getD k 0 := ⟨_, rfl⟩
      obtain ⟨y, hy⟩ : ∃ y, y = m.getD k 0 := ⟨_, rfl⟩
      have HN := Lib.hid (hst x y hx hy)
      rw [← hx] at hca b1 b2
      rw [← hy] at hcb b3 b4
      clear hst hx hy
      go_wp2_with fail
      go_region
      go_wp2_with fail
      go_roundw
      case rel =>
        have e1 : x + y = x + 1 * y := by omega
        rw [e1]
        have hA3 := HA.out.set_ k (.int .i64 (x + 1 * y))
        rw [cellsZ_set] at hA3
        exact ⟨k + 1, _, by omega, by go_num, HN.out, hA3.drew, (HB.out.far (p := ⟨ga, k, none⟩) (by simp) _).drew, (HC.out.far (p := ⟨ga, k, none⟩) (by simp; omega) _).drew, (HT.out.setCell (p := ⟨ga, k, none⟩) (.inr (by rw [Hga.out]; exact Nat.le_refl _)) _).drew⟩
      case measure => simp [intOf]; omega
    · obtain rfl : k = 16 := by omega
      go_wp2_with fail
      refine (carry_any ga r HS.out.len HS.out.big wr HA.out).mono ?_
      rintro e w5 ⟨rfl, q, hq, hA5, hT5⟩
      have HA5 := Lib.hid hA5
      have HC5 := Lib.hid (HC.out.touch hT5 (by simp; omega))
      have HT5 := Lib.hid (touch_newE HT.out hT5 (by rw [Hga.out]; exact Nat.le_refl _))
      obtain ⟨hr, hf⟩ := HS.out.red Hm.out hq
      have Hr := Lib.hid hr
      have Hf := Lib.hid hf
      clear hA5 hT5 hq hr hf
      go_wp2_with (first | (refine wpList_loadE rfl (.tmp 2) rfl ga rfl 25 q Hr.out.len HA5.out ?_) | (refine wpList_storeE rfl (.tmp 4) (.tmp 22) rfl (ga + 1 + 1) rfl q rfl 25 _ Hr.out.len rfl HC5.out ?_))
      have HC6 := HC5.out.setRow (cellsZ q).toArray
      refine bodyPost_ret (results_cell_row Tryd.results26 _ _ (ga + 1 + 1) 25 (cellsZ q).toArray (0, 0) _ rfl HC6 Tryd.underlying25 rfl (by rw [cellsZ_size, Hr.out.len]; exact infoE)) rfl ⟨q, Hr.out, ?_, rfl, HT5.out.setRowE (.inr (by have := Hga.out; omega)) _⟩
      rw [Hf.out, show vI l + 1 * vI m = vI l + vI m by omega, fz_add]
      rfl
set_option maxRecDepth 100000 in
set_option maxHeartbeats 1000000 in
theorem sub_any (l m : List Int) (hl : Red l) (hm : Red m) (w : World) :
    Calls Tryd.prog 25 #[elV l, elV m] w (EPost (subF (fe l) (fe m)) w) := by
  have Hl := Lib.hid hl
  have Hm := Lib.hid hm
  clear hl hm
  unfold elV
  go_enter Tryd.func25, Tryd.ntmps25
  go_wp2_with fail
  rw [← zeroE_eq]
  obtain ⟨w1, hw1⟩ : ∃ w1, w1 = ((w.alloc (.cells (cellsZ l).toArray 25)).alloc (.cells (cellsZ m).toArray 25)).alloc (.cells (cellsZ (List.replicate 16 0)).toArray 25) := ⟨_, rfl⟩
  have hA : Blk w1 w.heap.size 25 (cellsZ l).toArray := by rw [hw1]; exact ((Blk.new _ _ _).alloc _).alloc _
  have hB : Blk w1 (w.heap.size + 1) 25 (cellsZ m).toArray := by
    have := (Blk.new (w.alloc (.cells (cellsZ l).toArray 25)) 25 (cellsZ m).toArray).alloc (.cells (cellsZ (List.replicate 16 0)).toArray 25)
    rw [hw1]; simpa using this
  have hC : Blk w1 (w.heap.size + 1 + 1) 25 (cellsZ (List.replicate 16 0)).toArray := by
    have := Blk.new ((w.alloc (.cells (cellsZ l).toArray 25)).alloc (.cells (cellsZ m).toArray 25)) 25 (cellsZ (List.replicate 16 0)).toArray
    rw [hw1]; simpa using this
  have hT : Touch [] w w1 := by rw [hw1]; exact (((Touch.refl _ _).alloc _).alloc _).alloc _
  rw [← hw1]
  obtain ⟨ga, hga⟩ : ∃ ga, ga = w.heap.size := ⟨_, rfl⟩
  have Hga := Lib.hid hga
  rw [← hga] at hA hB hC
  rw [← hga]
  clear hw1 hga
  go_loopw [6] (fun vi wr => ∃ (k : Nat) (r : List Int), k ≤ 16 ∧ vi = .int .i64 k ∧ SumA (-1) l m r k ∧ Blk wr ga 25 (cellsZ r).toArray ∧ Blk wr (ga + 1) 25 (cellsZ m).toArray ∧ Blk wr (ga + 1 + 1) 25 (cellsZ (List.replicate 16 0)).toArray ∧ Touch [] w wr) (fun vi _ => 16 - (intOf vi).toNat)
  case atStart => exact ⟨0, l, by omega, rfl, SumA.start Hl.out, hA, hB, hC, hT⟩
  case round =>
    clear hA hB hC hT
    obtain ⟨k, r, hk, rfl, hS, hA, hB, hC, hT⟩ := hrel
    have HS := Lib.hid hS
    have HA := Lib.hid hA
    have HB := Lib.hid hB
    have HC := Lib.hid hC
    have HT := Lib.hid hT
    clear hS hA hB hC hT
    by_cases hk16 : k < 16
    · have hca : wr.cell? ⟨ga, k, none⟩ = some (.int .i64 (r.getD k 0)) := by
        rw [HA.out.cell, List.getElem?_toArray]; exact cellsZ_at (by rw [HS.out.len]; exact hk16)
      have hcb : wr.cell? ⟨ga + 1, k, none⟩ = some (.int .i64 (m.getD k 0)) := by
        rw [HB.out.cell, List.getElem?_toArray]; exact cellsZ_at (by rw [Hm.out.len]; exact hk16)
      have hf : wr.frozen? ⟨ga, k, none⟩ = false := HA.out.frozen k
      obtain ⟨b1, b2, b3, b4⟩ := HS.out.xy Hl.out Hm.out
      have hst := fun x y => HS.out.step hk16 Hl.out Hm.out (by omega) (x := x) (y := y)
      obtain ⟨x, hx⟩ : ∃ x, x = r.getD k 0 := ⟨_, rfl⟩
      obtain ⟨y, hy⟩ : ∃ y, y = m.getD k 0 := ⟨_, rfl⟩
      have HN := Lib.hid (hst x y hx hy)
      rw [← hx] at hca b1 b2
      rw [← hy] at hcb b3 b4
      clear hst hx hy
      go_wp2_with fail
      go_region
      go_wp2_with fail
      go_roundw
      case rel =>
        have e1 : x - y = x + (-1) * y := by omega
        rw [e1]
        have hA3 := HA.out.set_ k (.int .i64 (x + (-1) * y))
        rw [cellsZ_set] at hA3
        exact ⟨k + 1, _, by omega, by go_num, HN.out, hA3.drew, (HB.out.far (p := ⟨ga, k, none⟩) (by simp) _).drew, (HC.out.far (p := ⟨ga, k, none⟩) (by simp; omega) _).drew, (HT.out.setCell (p := ⟨ga, k, none⟩) (.inr (by rw [Hga.out]; exact Nat.le_refl _)) _).drew⟩
      case measure => simp [intOf]; omega
    · obtain rfl : k = 16 := by omega
      go_wp2_with fail
      refine (carry_any ga r HS.out.len HS.out.big wr HA.out).mono ?_
      rintro e w5 ⟨rfl, q, hq, hA5, hT5⟩
      have HA5 := Lib.hid hA5
      have HC5 := Lib.hid (HC.out.touch hT5 (by simp; omega))
      have HT5 := Lib.hid (touch_newE HT.out hT5 (by rw [Hga.out]; exact Nat.le_refl _))
      obtain ⟨hr, hf⟩ := HS.out.red Hm.out hq
      have Hr := Lib.hid hr
      have Hf := Lib.hid hf
      clear hA5 hT5 hq hr hf
      go_wp2_with (first | (refine wpList_loadE rfl (.tmp 2) rfl ga rfl 25 q Hr.out.len HA5.out ?_) | (refine wpList_storeE rfl (.tmp 4) (.tmp 22) rfl (ga + 1 + 1) rfl q rfl 25 _ Hr.out.len rfl HC5.out ?_))
      have HC6 := HC5.out.setRow (cellsZ q).toArray
      refine bodyPost_ret (results_cell_row Tryd.results25 _ _ (ga + 1 + 1) 25 (cellsZ q).toArray (0, 0) _ rfl HC6 Tryd.underlying25 rfl (by rw [cellsZ_size, Hr.out.len]; exact infoE)) rfl ⟨q, Hr.out, ?_, rfl, HT5.out.setRowE (.inr (by have := Hga.out; omega)) _⟩
      rw [Hf.out, show vI l + (-1) * vI m = vI l - vI m by omega, fz_sub]
      rfl
end Go.Proofs.YtbgpgbfiadhddaaDoor
