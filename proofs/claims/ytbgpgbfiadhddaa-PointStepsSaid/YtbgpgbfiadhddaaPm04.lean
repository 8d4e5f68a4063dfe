/- Carry; AddSub; MulA; MulE; Grow: joined. -/
import Derived.BigQuiet
import Derived.Deep.CutBlock
import Derived.Deep.DeepCutAuto
import Derived.Deep.LoopGhost
import Derived.Deep.MidRow
import Derived.Deep.QuietTactic
import Derived.Deep.WholeRow
import Derived.Lib.Hide
import Derived.RegionTactic
import Derived.StillTailTactics
import Derived.Test.YtbgpgbfiadhddaaRows
import Derived.WalkKit
import Derived.WalkLawsBesides
import Derived.Test.YtbgpgbfiadhddaaPm03
/- (*field.Elem).carry. -/
namespace Go.Proofs.Ytbgpgbfiadhddaa
open Go.RowKit
def CarryPost (g : Nat) (l : List Int) (w w' : World) : Prop := ∃ r, CarB l r ∧ Blk w' g 24 (cellsZ r).toArray ∧ Touch [g] w w'
set_option maxRecDepth 100000 in
set_option maxHeartbeats 2000000 in
theorem carry_any (g : Nat) (l : List Int) (hl : l.length = 16) (hb : Bnd 2305843009213693952 l) (w : World) (hB : Blk w g 24 (cellsZ l).toArray) :
    Calls Try.prog 55 #[.pointer (some ⟨g, 0, none⟩)] w fun e w' => e = .returned (.tuple #[]) ∧ CarryPost g l w w' := by
  have Hl := Lib.hid hl
  have Hb := Lib.hid hb
  have HB := Lib.hid hB
  clear hl hb hB
  go_enter Try.func55, Try.ntmps55
  go_wp2_with fail
  go_loopw [4] (fun vi wr => ∃ (k : Nat) (r : List Int), k ≤ 16 ∧ vi = .int .i64 k ∧ r.length = 16 ∧ Blk wr g 24 (cellsZ r).toArray ∧ Touch [g] w wr ∧ (k < 16 → CarA l r k) ∧ (k = 16 → CarB l r)) (fun vi _ => 16 - (intOf vi).toNat)
  case atStart => exact ⟨0, l, by omega, rfl, Hl.out, HB.out, Touch.refl _ _, fun _ => CarA.start Hl.out Hb.out, fun h => by omega⟩
  case round =>
    clear HB
    obtain ⟨k, r, hk, rfl, hr, hB, hT, hA, hE⟩ := hrel
    have Hr := Lib.hid hr
    have HB := Lib.hid hB
    have HT := Lib.hid hT
    have HE := Lib.hid hE
    clear hr hB hT hE
    by_cases hk16 : k < 16
    · have HA := Lib.hid (hA hk16)
      clear hA HE
      have hc : wr.cell? ⟨g, k, none⟩ = some (.int .i64 (r.getD k 0)) := by
        rw [HB.out.cell, List.getElem?_toArray]; exact cellsZ_at (by rw [Hr.out]; exact hk16)
      have hlo := HA.out.lo
      have hhi := HA.out.hi
      have hf : wr.frozen? ⟨g, k, none⟩ = false := HB.out.frozen k
      by_cases hk15 : k < 15
      · have hc2 : wr.cell? ⟨g, k + 1, none⟩ = some (.int .i64 (r.getD (k + 1) 0)) := by
          rw [HB.out.cell, List.getElem?_toArray]; exact cellsZ_at (by rw [Hr.out]; omega)
        have hf2 : wr.frozen? ⟨g, k + 1, none⟩ = false := HB.out.frozen (k + 1)
        have hyb : -2305843009213693952 ≤ r.getD (k + 1) 0 ∧ r.getD (k + 1) 0 ≤ 2305843009213693952 := by
          have e := congrArg (fun m => m.getD 0 0) HA.out.drop
          have e2 : r.getD (k + 1) 0 = l.getD (k + 1) 0 := by simpa [List.getD] using e
          rw [e2]; exact Hb.out.at_ (by decide) _
        obtain ⟨hy1, hy2⟩ := hyb
        have hst := fun x y => HA.out.step hk15 Hb.out (x := x) (y := y)
        obtain ⟨x, hx⟩ : ∃ x, x = r.getD k 0 := ⟨_, rfl⟩
        obtain ⟨y, hy⟩ : ∃ y, y = r.getD (k + 1) 0 := ⟨_, rfl⟩
        have HS := Lib.hid (hst x y hx hy)
        rw [← hx] at hc hlo hhi
        rw [← hy] at hc2 hy1 hy2
        clear hst hx hy
        go_wp2_with fail
        go_region
        go_wp2_with fail
        go_region
        go_wp2_with fail
        go_region
        go_wp2_with fail
        go_roundw
        case rel =>
          have e1 : x + 65536 - (x + 65536) / 65536 * 65536 = x % 65536 := by omega
          have e2 : y + ((x + 65536) / 65536 - 1) = y + x / 65536 := by omega
          rw [e1, e2]
          have hB3 := ((HB.out.set_ k (.int .i64 (x + 65536))).set_ k (.int .i64 (x % 65536))).set_ (k + 1) (.int .i64 (y + x / 65536))
          rw [cellsZ_set, cellsZ_set, cellsZ_set, List.set_set] at hB3
          have hg : g ∈ [g] ∨ w.heap.size ≤ g := .inl (by simp)
          have hT3 := ((HT.out.setCell (p := ⟨g, k, none⟩) hg (.int .i64 (x + 65536))).setCell (p := ⟨g, k, none⟩) hg (.int .i64 (x % 65536))).setCell (p := ⟨g, k + 1, none⟩) hg (.int .i64 (y + x / 65536))
          exact ⟨k + 1, _, by omega, by go_num, by simp [Hr.out], hB3.drew.drew.drew, hT3.drew.drew.drew, fun _ => HS.out, fun h => by omega⟩
        case measure => simp [intOf]; omega
      · obtain rfl : k = 15 := by omega
        have hc2 : wr.cell? ⟨g, 0, none⟩ = some (.int .i64 (r.getD 0 0)) := by
          rw [HB.out.cell, List.getElem?_toArray]; exact cellsZ_at (by rw [Hr.out]; omega)
        have hf2 : wr.frozen? ⟨g, 0, none⟩ = false := HB.out.frozen 0
        have hyb := HA.out.dig 0 (by omega)
        obtain ⟨hy1, hy2⟩ := hyb
        have hst := fun x y => HA.out.last (x := x) (y := y)
        obtain ⟨x, hx⟩ : ∃ x, x = r.getD 15 0 := ⟨_, rfl⟩
        obtain ⟨y, hy⟩ : ∃ y, y = r.getD 0 0 := ⟨_, rfl⟩
        have HS := Lib.hid (hst x y hx hy)
        rw [← hx] at hc hlo hhi
        rw [← hy] at hc2 hy1 hy2
        clear hst hx hy
        go_wp2_with fail
        go_region
        go_wp2_with fail
        go_region
        go_wp2_with fail
        go_region
        go_wp2_with fail
        go_roundw
        case rel =>
          have e1 : x + 65536 - (x + 65536) / 65536 * 65536 = x % 65536 := by omega
          have e2 : y + 38 * ((x + 65536) / 65536 - 1) = y + 38 * (x / 65536) := by omega
          rw [e1, e2]
          have hB3 := ((HB.out.set_ 15 (.int .i64 (x + 65536))).set_ 15 (.int .i64 (x % 65536))).set_ 0 (.int .i64 (y + 38 * (x / 65536)))
          rw [cellsZ_set, cellsZ_set, cellsZ_set, List.set_set] at hB3
          have hg : g ∈ [g] ∨ w.heap.size ≤ g := .inl (by simp)
          have hT3 := ((HT.out.setCell (p := ⟨g, 15, none⟩) hg (.int .i64 (x + 65536))).setCell (p := ⟨g, 15, none⟩) hg (.int .i64 (x % 65536))).setCell (p := ⟨g, 0, none⟩) hg (.int .i64 (y + 38 * (x / 65536)))
          exact ⟨16, _, by omega, rfl, by simp [Hr.out], hB3.drew.drew.drew, hT3.drew.drew.drew, fun h => by omega, fun _ => HS.out⟩
        case measure => simp [intOf]
    · obtain rfl : k = 16 := by omega
      have HC := Lib.hid (HE.out rfl)
      clear hA
      go_wp2_with fail
      go_end0
      exact ⟨rfl, r, HC.out, HB.out, HT.out⟩
end Go.Proofs.Ytbgpgbfiadhddaa
/- (field.Elem).Add, Sub, Neg. -/
namespace Go.Proofs.Ytbgpgbfiadhddaa
open Go.RowKit
theorem Touch.setRowE {S : List Nat} {a w : World} {g : Nat} (h : Touch S a w) (hg : g ∈ S ∨ a.heap.size ≤ g) (cs : Array Value) : Touch S a (w.setRow g cs) :=
  ⟨h.os, h.tape, h.output, by rw [setRow_size]; exact h.size, fun k hk hn => (setRow_other w g k cs (by
    rintro rfl
    rcases hg with hg | hg
    · exact hn hg
    · omega)).trans (h.block k hk hn)⟩
theorem touch_newE {a b c : World} {gt : Nat} (h : Touch [] a b) (k : Touch [gt] b c) (hg : a.heap.size ≤ gt) : Touch [] a c :=
  ⟨k.os.trans h.os, k.tape.trans h.tape, k.output.trans h.output, Nat.le_trans h.size k.size, fun i hi hni => (k.block i (Nat.lt_of_lt_of_le hi h.size) (by simp; omega)).trans (h.block i hi hni)⟩
theorem Blk.setRow {w : World} {g : Nat} {t : TypeId} {cs : Array Value} (h : Blk w g t cs) (cs' : Array Value) : Blk (w.setRow g cs') g t cs' := setRow_heap w g cs cs' t (0, 0) h
theorem infoE : (Try.prog.info? 24).map (·.size) = some 16 := by kernel_rfl
theorem Blk.frow {w : World} {g g' : Nat} {t : TypeId} {cs : Array Value} (h : Blk w g t cs) (hne : g ≠ g') (cs' : Array Value) : Blk (w.setRow g' cs') g t cs := (setRow_other w g' g cs' hne).trans h
section
variable {w : World} {ops : Array Oper} {rest : List Oper} {o : Oper} {a : Act} {Q : Exit → Act → World → Prop}
/-- A number is read. -/
theorem wpList_loadE (hgd : o.guard = none) (x : Operand) (ho : o.op = .load 24 x) (g : Nat) (hx : a.eval x = .pointer (some ⟨g, 0, none⟩)) (t : TypeId) (l : List Int) (hl : l.length = 16) (hB : Blk w g t (cellsZ l).toArray)
    (h : wpList Try.prog ops Q rest (a.put o.dst (elV l)) w) : wpList Try.prog ops Q (o :: rest) a w :=
  wpList_load_row hgd _ x ho g hx t (cellsZ l).toArray (0, 0) _ hB Try.underlying24 rfl (by rw [cellsZ_size, hl]; exact infoE) h
/-- A number is laid. -/
theorem wpList_storeE (hgd : o.guard = none) (x y : Operand) (ho : o.op = .store 24 x y) (g : Nat) (hx : a.eval x = .pointer (some ⟨g, 0, none⟩)) (l : List Int) (hy : a.eval y = elV l) (t : TypeId) (old : Array Value) (hl : l.length = 16) (hs : old.size = 16) (hB : Blk w g t old)
    (h : wpList Try.prog ops Q rest (a.put o.dst undef) (w.setRow g (cellsZ l).toArray)) : wpList Try.prog ops Q (o :: rest) a w :=
  wpList_store_row hgd _ x y ho g (cellsZ l).toArray hx hy t old hB (by rw [cellsZ_size, hl]; exact infoE) (by rw [cellsZ_size, hl, hs]) (cellsZ_one l) h
end
theorem zeroE_eq : (cellsZ (List.replicate 16 0)).toArray = #[.int .i64 0, .int .i64 0, .int .i64 0, .int .i64 0, .int .i64 0, .int .i64 0, .int .i64 0, .int .i64 0, .int .i64 0, .int .i64 0, .int .i64 0, .int .i64 0, .int .i64 0, .int .i64 0, .int .i64 0, .int .i64 0] := rfl
/-- What a function that gives a number leaves. -/
def EPost (n : Nat) (w : World) (e : Ending) (w' : World) : Prop := ∃ r, Red r ∧ fe r = n ∧ e = .returned (elV r) ∧ Touch [] w w'
set_option maxRecDepth 100000 in
set_option maxHeartbeats 1000000 in
theorem add_any (l m : List Int) (hl : Red l) (hm : Red m) (w : World) :
    Calls Try.prog 31 #[elV l, elV m] w (EPost (addF (fe l) (fe m)) w) := by
  have Hl := Lib.hid hl
  have Hm := Lib.hid hm
  clear hl hm
  unfold elV
  go_enter Try.func31, Try.ntmps31
  go_wp2_with fail
  rw [← zeroE_eq]
  obtain ⟨w1, hw1⟩ : ∃ w1, w1 = ((w.alloc (.cells (cellsZ l).toArray 24)).alloc (.cells (cellsZ m).toArray 24)).alloc (.cells (cellsZ (List.replicate 16 0)).toArray 24) := ⟨_, rfl⟩
  have hA : Blk w1 w.heap.size 24 (cellsZ l).toArray := by rw [hw1]; exact ((Blk.new _ _ _).alloc _).alloc _
  have hB : Blk w1 (w.heap.size + 1) 24 (cellsZ m).toArray := by
    have := (Blk.new (w.alloc (.cells (cellsZ l).toArray 24)) 24 (cellsZ m).toArray).alloc (.cells (cellsZ (List.replicate 16 0)).toArray 24)
    rw [hw1]; simpa using this
  have hC : Blk w1 (w.heap.size + 1 + 1) 24 (cellsZ (List.replicate 16 0)).toArray := by
    have := Blk.new ((w.alloc (.cells (cellsZ l).toArray 24)).alloc (.cells (cellsZ m).toArray 24)) 24 (cellsZ (List.replicate 16 0)).toArray
    rw [hw1]; simpa using this
  have hT : Touch [] w w1 := by rw [hw1]; exact (((Touch.refl _ _).alloc _).alloc _).alloc _
  rw [← hw1]
  obtain ⟨ga, hga⟩ : ∃ ga, ga = w.heap.size := ⟨_, rfl⟩
  have Hga := Lib.hid hga
  rw [← hga] at hA hB hC
  rw [← hga]
  clear hw1 hga
  go_loopw [6] (fun vi wr => ∃ (k : Nat) (r : List Int), k ≤ 16 ∧ vi = .int .i64 k ∧ SumA 1 l m r k ∧ Blk wr ga 24 (cellsZ r).toArray ∧ Blk wr (ga + 1) 24 (cellsZ m).toArray ∧ Blk wr (ga + 1 + 1) 24 (cellsZ (List.replicate 16 0)).toArray ∧ Touch [] w wr) (fun vi _ => 16 - (intOf vi).toNat)
  case atStart => exact ⟨0, l, by omega, rfl, SumA.start Hl.out, hA, hB, hC, hT⟩
  case round =>
    clear hA hB hC hT
    obtain ⟨k, r, hk, rfl, hS, hA, hB, hC, hT⟩ := hrel
    have HS := Lib.hid hS
    have HA := Lib.hid hA
    have HB := Lib.hid hB
    have HC := Lib.hid hC
    have HT := Lib.hid hT
    clear hS hA hB hC hT
    by_cases hk16 : k < 16
    · have hca : wr.cell? ⟨ga, k, none⟩ = some (.int .i64 (r.getD k 0)) := by
        rw [HA.out.cell, List.getElem?_toArray]; exact cellsZ_at (by rw [HS.out.len]; exact hk16)
      have hcb : wr.cell? ⟨ga + 1, k, none⟩ = some (.int .i64 (m.getD k 0)) := by
        rw [HB.out.cell, List.getElem?_toArray]; exact cellsZ_at (by rw [Hm.out.len]; exact hk16)
      have hf : wr.frozen? ⟨ga, k, none⟩ = false := HA.out.frozen k
      obtain ⟨b1, b2, b3, b4⟩ := HS.out.xy Hl.out Hm.out
      have hst := fun x y => HS.out.step hk16 Hl.out Hm.out (by omega) (x := x) (y := y)
      obtain ⟨x, hx⟩ : ∃ x, x = r.getD k 0 := ⟨_, rfl⟩
      obtain ⟨y, hy⟩ : ∃ y, y = m.getD k 0 := ⟨_, rfl⟩
      have HN := Lib.hid (hst x y hx hy)
      rw [← hx] at hca b1 b2
      rw [← hy] at hcb b3 b4
      clear hst hx hy
      go_wp2_with fail
      go_region
      go_wp2_with fail
      go_roundw
      case rel =>
        have e1 : x + y = x + 1 * y := by omega
        rw [e1]
        have hA3 := HA.out.set_ k (.int .i64 (x + 1 * y))
        rw [cellsZ_set] at hA3
        exact ⟨k + 1, _, by omega, by go_num, HN.out, hA3.drew, (HB.out.far (p := ⟨ga, k, none⟩) (by simp) _).drew, (HC.out.far (p := ⟨ga, k, none⟩) (by simp; omega) _).drew, (HT.out.setCell (p := ⟨ga, k, none⟩) (.inr (by rw [Hga.out]; exact Nat.le_refl _)) _).drew⟩
      case measure => simp [intOf]; omega
    · obtain rfl : k = 16 := by omega
      go_wp2_with fail
      refine (carry_any ga r HS.out.len HS.out.big wr HA.out).mono ?_
      rintro e w5 ⟨rfl, q, hq, hA5, hT5⟩
      have HA5 := Lib.hid hA5
      have HC5 := Lib.hid (HC.out.touch hT5 (by simp; omega))
      have HT5 := Lib.hid (touch_newE HT.out hT5 (by rw [Hga.out]; exact Nat.le_refl _))
      obtain ⟨hr, hf⟩ := HS.out.red Hm.out hq
      have Hr := Lib.hid hr
      have Hf := Lib.hid hf
      clear hA5 hT5 hq hr hf
      go_wp2_with (first | (refine wpList_loadE rfl (.tmp 2) rfl ga rfl 24 q Hr.out.len HA5.out ?_) | (refine wpList_storeE rfl (.tmp 4) (.tmp 22) rfl (ga + 1 + 1) rfl q rfl 24 _ Hr.out.len rfl HC5.out ?_))
      have HC6 := HC5.out.setRow (cellsZ q).toArray
      refine bodyPost_ret (results_cell_row Try.results31 _ _ (ga + 1 + 1) 24 (cellsZ q).toArray (0, 0) _ rfl HC6 Try.underlying24 rfl (by rw [cellsZ_size, Hr.out.len]; exact infoE)) rfl ⟨q, Hr.out, ?_, rfl, HT5.out.setRowE (.inr (by have := Hga.out; omega)) _⟩
      rw [Hf.out, show vI l + 1 * vI m = vI l + vI m by omega, fz_add]
      rfl
set_option maxRecDepth 100000 in
set_option maxHeartbeats 1000000 in
theorem sub_any (l m : List Int) (hl : Red l) (hm : Red m) (w : World) :
    Calls Try.prog 29 #[elV l, elV m] w (EPost (subF (fe l) (fe m)) w) := by
  have Hl := Lib.hid hl
  have Hm := Lib.hid hm
  clear hl hm
  unfold elV
  go_enter Try.func29, Try.ntmps29
  go_wp2_with fail
  rw [← zeroE_eq]
  obtain ⟨w1, hw1⟩ : ∃ w1, w1 = ((w.alloc (.cells (cellsZ l).toArray 24)).alloc (.cells (cellsZ m).toArray 24)).alloc (.cells (cellsZ (List.replicate 16 0)).toArray 24) := ⟨_, rfl⟩
  have hA : Blk w1 w.heap.size 24 (cellsZ l).toArray := by rw [hw1]; exact ((Blk.new _ _ _).alloc _).alloc _
  have hB : Blk w1 (w.heap.size + 1) 24 (cellsZ m).toArray := by
    have := (Blk.new (w.alloc (.cells (cellsZ l).toArray 24)) 24 (cellsZ m).toArray).alloc (.cells (cellsZ (List.replicate 16 0)).toArray 24)
    rw [hw1]; simpa using this
  have hC : Blk w1 (w.heap.size + 1 + 1) 24 (cellsZ (List.replicate 16 0)).toArray := by
    have := Blk.new ((w.alloc (.cells (cellsZ l).toArray 24)).alloc (.cells (cellsZ m).toArray 24)) 24 (cellsZ (List.replicate 16 0)).toArray
    rw [hw1]; simpa using this
  have hT : Touch [] w w1 := by rw [hw1]; exact (((Touch.refl _ _).alloc _).alloc _).alloc _
  rw [← hw1]
  obtain ⟨ga, hga⟩ : ∃ ga, ga = w.heap.size := ⟨_, rfl⟩
  have Hga := Lib.hid hga
  rw [← hga] at hA hB hC
  rw [← hga]
  clear hw1 hga
  go_loopw [6] (fun vi wr => ∃ (k : Nat) (r : List Int), k ≤ 16 ∧ vi = .int .i64 k ∧ SumA (-1) l m r k ∧ Blk wr ga 24 (cellsZ r).toArray ∧ Blk wr (ga + 1) 24 (cellsZ m).toArray ∧ Blk wr (ga + 1 + 1) 24 (cellsZ (List.replicate 16 0)).toArray ∧ Touch [] w wr) (fun vi _ => 16 - (intOf vi).toNat)
  case atStart => exact ⟨0, l, by omega, rfl, SumA.start Hl.out, hA, hB, hC, hT⟩
  case round =>
    clear hA hB hC hT
    obtain ⟨k, r, hk, rfl, hS, hA, hB, hC, hT⟩ := hrel
    have HS := Lib.hid hS
    have HA := Lib.hid hA
    have HB := Lib.hid hB
    have HC := Lib.hid hC
    have HT := Lib.hid hT
    clear hS hA hB hC hT
    by_cases hk16 : k < 16
    · have hca : wr.cell? ⟨ga, k, none⟩ = some (.int .i64 (r.getD k 0)) := by
        rw [HA.out.cell, List.getElem?_toArray]; exact cellsZ_at (by rw [HS.out.len]; exact hk16)
      have hcb : wr.cell? ⟨ga + 1, k, none⟩ = some (.int .i64 (m.getD k 0)) := by
        rw [HB.out.cell, List.getElem?_toArray]; exact cellsZ_at (by rw [Hm.out.len]; exact hk16)
      have hf : wr.frozen? ⟨ga, k, none⟩ = false := HA.out.frozen k
      obtain ⟨b1, b2, b3, b4⟩ := HS.out.xy Hl.out Hm.out
      have hst := fun x y => HS.out.step hk16 Hl.out Hm.out (by omega) (x := x) (y := y)
      obtain ⟨x, hx⟩ : ∃ x, x = r.getD k 0 := ⟨_, rfl⟩
      obtain ⟨y, hy⟩ : ∃ y, y = m.getD k 0 := ⟨_, rfl⟩
      have HN := Lib.hid (hst x y hx hy)
      rw [← hx] at hca b1 b2
      rw [← hy] at hcb b3 b4
      clear hst hx hy
      go_wp2_with fail
      go_region
      go_wp2_with fail
      go_roundw
      case rel =>
        have e1 : x - y = x + (-1) * y := by omega
        rw [e1]
        have hA3 := HA.out.set_ k (.int .i64 (x + (-1) * y))
        rw [cellsZ_set] at hA3
        exact ⟨k + 1, _, by omega, by go_num, HN.out, hA3.drew, (HB.out.far (p := ⟨ga, k, none⟩) (by simp) _).drew, (HC.out.far (p := ⟨ga, k, none⟩) (by simp; omega) _).drew, (HT.out.setCell (p := ⟨ga, k, none⟩) (.inr (by rw [Hga.out]; exact Nat.le_refl _)) _).drew⟩
      case measure => simp [intOf]; omega
    · obtain rfl : k = 16 := by omega
      go_wp2_with fail
      refine (carry_any ga r HS.out.len HS.out.big wr HA.out).mono ?_
      rintro e w5 ⟨rfl, q, hq, hA5, hT5⟩
      have HA5 := Lib.hid hA5
      have HC5 := Lib.hid (HC.out.touch hT5 (by simp; omega))
      have HT5 := Lib.hid (touch_newE HT.out hT5 (by rw [Hga.out]; exact Nat.le_refl _))
      obtain ⟨hr, hf⟩ := HS.out.red Hm.out hq
      have Hr := Lib.hid hr
      have Hf := Lib.hid hf
      clear hA5 hT5 hq hr hf
      go_wp2_with (first | (refine wpList_loadE rfl (.tmp 2) rfl ga rfl 24 q Hr.out.len HA5.out ?_) | (refine wpList_storeE rfl (.tmp 4) (.tmp 22) rfl (ga + 1 + 1) rfl q rfl 24 _ Hr.out.len rfl HC5.out ?_))
      have HC6 := HC5.out.setRow (cellsZ q).toArray
      refine bodyPost_ret (results_cell_row Try.results29 _ _ (ga + 1 + 1) 24 (cellsZ q).toArray (0, 0) _ rfl HC6 Try.underlying24 rfl (by rw [cellsZ_size, Hr.out.len]; exact infoE)) rfl ⟨q, Hr.out, ?_, rfl, HT5.out.setRowE (.inr (by have := Hga.out; omega)) _⟩
      rw [Hf.out, show vI l + (-1) * vI m = vI l - vI m by omega, fz_sub]
      rfl
end Go.Proofs.Ytbgpgbfiadhddaa
/- Products, digit by digit. -/
namespace Go.Proofs.Ytbgpgbfiadhddaa
open Go.RowKit
structure MulA (l m t : List Int) (i : Nat) : Prop where
  len : t.length = 32
  val : vI t = vI (l.take i) * vI m
  bnd : Bnd (70830499600 * i) t
structure MulB (l m t : List Int) (i : Nat) (x : Int) (j : Nat) : Prop where
  len : t.length = 32
  val : vI t = vI (l.take i) * vI m + 65536 ^ i * x * vI (m.take j)
  bnd : Bnd (70830499600 * i + 4426906225 * j) t
theorem MulA.start {l m : List Int} : MulA l m (List.replicate 32 0) 0 := ⟨by simp, by simp [vI], fun x hx => by have := (List.mem_replicate.1 hx).2; omega⟩
theorem MulA.inner {l m t : List Int} {i : Nat} (h : MulA l m t i) (x : Int) : MulB l m t i x 0 := ⟨h.len, by rw [h.val]; simp [vI], by simpa using h.bnd⟩
theorem mul_abs {x y M : Int} (hx : -M ≤ x ∧ x ≤ M) (hy : -M ≤ y ∧ y ≤ M) : -(M * M) ≤ x * y ∧ x * y ≤ M * M := by
  obtain ⟨h1, h2⟩ := hx
  obtain ⟨h3, h4⟩ := hy
  have a1 : 0 ≤ (M - x) * (M - y) := Int.mul_nonneg (by omega) (by omega)
  have a2 : 0 ≤ (M + x) * (M + y) := Int.mul_nonneg (by omega) (by omega)
  have a3 : 0 ≤ (M - x) * (M + y) := Int.mul_nonneg (by omega) (by omega)
  have a4 : 0 ≤ (M + x) * (M - y) := Int.mul_nonneg (by omega) (by omega)
  rw [Int.sub_mul, Int.mul_sub, Int.mul_sub] at a1
  rw [Int.add_mul, Int.mul_add, Int.mul_add] at a2
  rw [Int.sub_mul, Int.mul_add, Int.mul_add] at a3
  rw [Int.add_mul, Int.mul_sub, Int.mul_sub] at a4
  rw [Int.mul_comm M y] at a1 a2 a3 a4
  omega
theorem mul_dig {x y : Int} (hx : -66535 ≤ x ∧ x ≤ 66535) (hy : -66535 ≤ y ∧ y ≤ 66535) : -4426906225 ≤ x * y ∧ x * y ≤ 4426906225 := by
  have := mul_abs hx hy
  omega
theorem MulB.step {l m t : List Int} {i j : Nat} {x y u : Int} (h : MulB l m t i x j) (hi : i < 16) (hj : j < 16) (hm : Red m) (hx : -66535 ≤ x ∧ x ≤ 66535) (hy : y = m.getD j 0) (hu : u = t.getD (i + j) 0) :
    MulB l m (t.set (i + j) (u + x * y)) i x (j + 1) := by
  have h1 := h.len
  have hyb := hm.bnd.at_ (by decide) j
  rw [← hy] at hyb
  have hxy := mul_dig hx hyb
  have hub := h.bnd.at_ (by omega) (i + j)
  rw [← hu] at hub
  refine ⟨by simp [h1], ?_, ?_⟩
  · have e1 := vI_set (l := t) (k := i + j) (by omega) (u + x * y)
    rw [vI_take_succ (by rw [hm.len]; omega), ← hy]
    rw [← hu, h.val, Int.pow_add] at e1
    generalize (65536 : Int) ^ i = P at *
    generalize (65536 : Int) ^ j = Q at *
    generalize vI (m.take j) = V at *
    generalize vI (l.take i) * vI m = L at *
    generalize vI (t.set (i + j) (u + x * y)) = R at *
    grind
  · have hb : Bnd (70830499600 * i + 4426906225 * (j + 1 : Nat)) t := h.bnd.mono (by omega)
    exact hb.set _ (by omega)
theorem MulB.big {l m t : List Int} {i j : Nat} {x : Int} (h : MulB l m t i x j) (hi : i < 16) (hj : j ≤ 16) (k : Nat) : -2000000000000 ≤ t.getD k 0 ∧ t.getD k 0 ≤ 2000000000000 := by
  have := h.bnd.at_ (by omega) k
  omega
theorem MulB.outer {l m t : List Int} {i : Nat} {x : Int} (h : MulB l m t i x 16) (hi : i < 16) (hl : Red l) (hm : Red m) (hx : x = l.getD i 0) : MulA l m t (i + 1) := by
  refine ⟨h.len, ?_, h.bnd.mono (by omega)⟩
  rw [h.val, List.take_of_length_le (l := m) (by rw [hm.len]; omega), vI_take_succ (by rw [hl.len]; omega), ← hx, Int.add_mul]
/-- What is folded. -/
structure FoldA (t l r : List Int) (k : Nat) : Prop where
  len : r.length = 16
  val : vI (r.take k) = vI (t.take k) + 38 * vI ((t.drop 16).take k)
  bnd : Bnd 65534999934465 r
theorem FoldA.start {t l : List Int} (hl : Red l) : FoldA t l l 0 := ⟨hl.len, by simp [vI], hl.bnd.mono (by omega)⟩
theorem FoldA.step {l m t r : List Int} {k : Nat} (h : FoldA t l r k) (ht : MulA l m t 16) (hk : k < 16) {x y : Int} (hx : x = t.getD k 0) (hy : y = t.getD (k + 16) 0) : FoldA t l (r.set k (x + 38 * y)) (k + 1) := by
  have h1 := h.len
  have h2 := ht.len
  have hxb := ht.bnd.at_ (by omega) k
  have hyb := ht.bnd.at_ (by omega) (k + 16)
  rw [← hx] at hxb
  rw [← hy] at hyb
  refine ⟨by simp [h1], ?_, h.bnd.set k (by omega)⟩
  have e : (t.drop 16).getD k 0 = y := by rw [hy]; simp [List.getD, Nat.add_comm]
  rw [vI_take_succ (by simp; omega), vI_take_succ (by omega), vI_take_succ (by simp; omega), getD_set_self (by omega), ← hx, e, List.take_set_of_le (by omega), h.val]
  generalize (65536 : Int) ^ k = P at *
  grind
theorem FoldA.xy {l m t : List Int} (ht : MulA l m t 16) (k : Nat) : -2000000000000 ≤ t.getD k 0 ∧ t.getD k 0 ≤ 2000000000000 := by
  have := ht.bnd.at_ (by omega) k
  omega
theorem FoldA.red {l m t r q s : List Int} (h : FoldA t l r 16) (ht : MulA l m t 16) (hl : Red l) (h1 : CarB r q) (h2 : CarB q s) : Red s ∧ fe s = mulF (fe l) (fe m) := by
  refine ⟨h1.bound2 h2 h.len (C := 999999999) h.bnd (by omega) (by omega), ?_⟩
  have e := h.val
  rw [List.take_of_length_le (by rw [h.len]; omega), List.take_of_length_le (l := t.drop 16) (by rw [List.length_drop, ht.len]; omega)] at e
  have e2 : vI t = vI (t.take 16) + 65536 ^ 16 * vI (t.drop 16) := by
    conv => lhs; rw [← List.take_append_drop 16 t, vI_append, List.length_take, ht.len]
    rfl
  have e3 := ht.val
  rw [List.take_of_length_le (by rw [hl.len]; omega)] at e3
  rw [h2.fe, h1.fe, fe, e, fz_fold, Int.mul_comm (vI (t.drop 16)), ← e2, e3, fz_mul]
  rfl
set_option maxRecDepth 100000 in
theorem index16 (l : List Int) (hl : l.length = 16) (j : Nat) (hj : j < 16) (W : World) :
    (Instr.index 22 (.agg (cellsZ l).toArray) (.int .i64 (j : Int))).run Try.prog W = .ok (.int .i64 (l.getD j 0)) W := by
  match l, hl with
  | [a0, a1, a2, a3, a4, a5, a6, a7, a8, a9, a10, a11, a12, a13, a14, a15], _ =>
    have : j = 0 ∨ j = 1 ∨ j = 2 ∨ j = 3 ∨ j = 4 ∨ j = 5 ∨ j = 6 ∨ j = 7 ∨ j = 8 ∨ j = 9 ∨ j = 10 ∨ j = 11 ∨ j = 12 ∨ j = 13 ∨ j = 14 ∨ j = 15 := by omega
    rcases this with rfl | rfl | rfl | rfl | rfl | rfl | rfl | rfl | rfl | rfl | rfl | rfl | rfl | rfl | rfl | rfl <;> rfl
theorem infoA : (Try.prog.info? 22).map (·.size) = some 16 := by kernel_rfl
theorem wpList_loadA {w : World} {ops : Array Oper} {rest : List Oper} {o : Oper} {a : Act} {Q : Exit → Act → World → Prop} (hgd : o.guard = none) (x : Operand) (ho : o.op = .load 22 x) (g : Nat) (hx : a.eval x = .pointer (some ⟨g, 0, none⟩)) (t : TypeId) (l : List Int) (hl : l.length = 16) (hB : Blk w g t (cellsZ l).toArray)
    (h : wpList Try.prog ops Q rest (a.put o.dst (.agg (cellsZ l).toArray)) w) : wpList Try.prog ops Q (o :: rest) a w :=
  wpList_load_row hgd _ x ho g hx t (cellsZ l).toArray (0, 0) _ hB Try.underlying22 rfl (by rw [cellsZ_size, hl]; exact infoA) h
theorem zero32_eq : (cellsZ (List.replicate 32 0)).toArray = #[.int .i64 0, .int .i64 0, .int .i64 0, .int .i64 0, .int .i64 0, .int .i64 0, .int .i64 0, .int .i64 0, .int .i64 0, .int .i64 0, .int .i64 0, .int .i64 0, .int .i64 0, .int .i64 0, .int .i64 0, .int .i64 0, .int .i64 0, .int .i64 0, .int .i64 0, .int .i64 0, .int .i64 0, .int .i64 0, .int .i64 0, .int .i64 0, .int .i64 0, .int .i64 0, .int .i64 0, .int .i64 0, .int .i64 0, .int .i64 0, .int .i64 0, .int .i64 0] := rfl
end Go.Proofs.Ytbgpgbfiadhddaa
/- (field.Elem).Mul. -/
namespace Go.Proofs.Ytbgpgbfiadhddaa
open Go.RowKit
/-- The blocks of a product under way. -/
structure MulW (w : World) (ga : Nat) (l m t : List Int) (wr : World) : Prop where
  ba : Blk wr ga 24 (cellsZ l).toArray
  bb : Blk wr (ga + 1) 24 (cellsZ m).toArray
  bc : Blk wr (ga + 2) 24 (cellsZ (List.replicate 16 0)).toArray
  bt : Blk wr (ga + 3) 75 (cellsZ t).toArray
  touch : Touch [] w wr
theorem MulW.setT {w wr : World} {ga : Nat} {l m t : List Int} (h : MulW w ga l m t wr) (hg : w.heap.size ≤ ga) (k : Nat) (x : Int) : MulW w ga l m (t.set k x) (wr.setCell ⟨ga + 3, k, none⟩ (.int .i64 x)) :=
  ⟨h.ba.far (p := ⟨ga + 3, k, none⟩) (by simp) _, h.bb.far (p := ⟨ga + 3, k, none⟩) (by simp) _, h.bc.far (p := ⟨ga + 3, k, none⟩) (by simp) _, by rw [← cellsZ_set]; exact h.bt.set_ k _, h.touch.setCell (.inr (by simp; omega)) _⟩
theorem MulW.setA {w wr : World} {ga : Nat} {l m t : List Int} (h : MulW w ga l m t wr) (hg : w.heap.size ≤ ga) (k : Nat) (x : Int) : MulW w ga (l.set k x) m t (wr.setCell ⟨ga, k, none⟩ (.int .i64 x)) :=
  ⟨by rw [← cellsZ_set]; exact h.ba.set_ k _, h.bb.far (p := ⟨ga, k, none⟩) (by simp) _, h.bc.far (p := ⟨ga, k, none⟩) (by simp) _, h.bt.far (p := ⟨ga, k, none⟩) (by simp) _, h.touch.setCell (.inr (by simpa using hg)) _⟩
theorem MulW.drew {w wr : World} {ga : Nat} {l m t : List Int} (h : MulW w ga l m t wr) : MulW w ga l m t wr.drew := ⟨h.ba, h.bb, h.bc, h.bt, h.touch.drew⟩
theorem MulW.carried {w wr w' : World} {ga : Nat} {l m t q : List Int} (h : MulW w ga l m t wr) (hg : w.heap.size ≤ ga) (hq : Blk w' ga 24 (cellsZ q).toArray) (ht : Touch [ga] wr w') : MulW w ga q m t w' :=
  ⟨hq, h.bb.touch ht (by simp), h.bc.touch ht (by simp), h.bt.touch ht (by simp), touch_newE h.touch ht hg⟩
theorem MulW.start (w : World) (l m : List Int) : MulW w w.heap.size l m (List.replicate 32 0) ((((w.alloc (.cells (cellsZ l).toArray 24)).alloc (.cells (cellsZ m).toArray 24)).alloc (.cells (cellsZ (List.replicate 16 0)).toArray 24)).alloc (.cells (cellsZ (List.replicate 32 0)).toArray 75)) := by
  refine ⟨(((Blk.new _ _ _).alloc _).alloc _).alloc _, ?_, ?_, ?_, ((((Touch.refl _ _).alloc _).alloc _).alloc _).alloc _⟩
  · have := ((Blk.new (w.alloc (.cells (cellsZ l).toArray 24)) 24 (cellsZ m).toArray).alloc (.cells (cellsZ (List.replicate 16 0)).toArray 24)).alloc (.cells (cellsZ (List.replicate 32 0)).toArray 75)
    simpa using this
  · have := (Blk.new ((w.alloc (.cells (cellsZ l).toArray 24)).alloc (.cells (cellsZ m).toArray 24)) 24 (cellsZ (List.replicate 16 0)).toArray).alloc (.cells (cellsZ (List.replicate 32 0)).toArray 75)
    simpa using this
  · have := Blk.new (((w.alloc (.cells (cellsZ l).toArray 24)).alloc (.cells (cellsZ m).toArray 24)).alloc (.cells (cellsZ (List.replicate 16 0)).toArray 24)) 75 (cellsZ (List.replicate 32 0)).toArray
    simpa using this
set_option maxRecDepth 100000 in
set_option maxHeartbeats 2000000 in
theorem mul_any (l m : List Int) (hl : Red l) (hm : Red m) (w : World) :
    Calls Try.prog 28 #[elV l, elV m] w (EPost (mulF (fe l) (fe m)) w) := by
  have Hl := Lib.hid hl
  have Hm := Lib.hid hm
  clear hl hm
  unfold elV
  go_enter Try.func28, Try.ntmps28
  go_upto_region 2 with fail
  rw [← zeroE_eq, ← zero32_eq]
  have hW := MulW.start w l m
  obtain ⟨w1, hw1⟩ : ∃ w1, w1 = ((((w.alloc (.cells (cellsZ l).toArray 24)).alloc (.cells (cellsZ m).toArray 24)).alloc (.cells (cellsZ (List.replicate 16 0)).toArray 24)).alloc (.cells (cellsZ (List.replicate 32 0)).toArray 75)) := ⟨_, rfl⟩
  rw [← hw1] at hW ⊢
  obtain ⟨ga, hga⟩ : ∃ ga, ga = w.heap.size := ⟨_, rfl⟩
  have Hga := Lib.hid (show w.heap.size ≤ ga by omega)
  rw [← hga] at hW ⊢
  have HW := Lib.hid hW
  clear hW hw1 hga
  go_wp2_with (refine wpList_loadA rfl (.tmp 11) rfl ga rfl 24 l Hl.out.len HW.out.ba ?_)
  go_loopw [13] (fun vi wr => ∃ (i : Nat) (t : List Int), i ≤ 16 ∧ vi = .int .i64 i ∧ MulA l m t i ∧ MulW w ga l m t wr) (fun vi _ => 16 - (intOf vi).toNat)
  case atStart => exact ⟨0, List.replicate 32 0, by omega, rfl, MulA.start, HW.out⟩
  case round =>
    clear HW
    obtain ⟨i, t, hi, rfl, hA, hW⟩ := hrel
    have HA := Lib.hid hA
    have HW := Lib.hid hW
    clear hA hW
    by_cases hi16 : i < 16
    · have hix := index16 l Hl.out.len i hi16
      have hxb := Hl.out.bnd.at_ (by decide) i
      obtain ⟨x, hx⟩ : ∃ x, x = l.getD i 0 := ⟨_, rfl⟩
      rw [← hx] at hix hxb
      have Hx := Lib.hid hx
      have Hxb := Lib.hid hxb
      have hxb1 := hxb.1
      have hxb2 := hxb.2
      clear hx hxb
      have hdi : decide ((i : Int) < 16) = true := decide_eq_true (by omega)
      go_wp2_with (refine wpList_loadA rfl (.tmp 17) rfl (ga + 1) rfl 24 m Hm.out.len HW.out.bb ?_)
      clear hix
      go_loopw [19] (fun vj wr => ∃ (j : Nat) (t : List Int), j ≤ 16 ∧ vj = .int .i64 j ∧ MulB l m t i x j ∧ MulW w ga l m t wr) (fun vj _ => 16 - (intOf vj).toNat)
      case atStart => exact ⟨0, t, by omega, rfl, HA.out.inner x, HW.out⟩
      case round =>
        clear HA HW
        obtain ⟨j, t, hj, rfl, hA, hW⟩ := hrel
        have HA := Lib.hid hA
        have HW := Lib.hid hW
        clear hA hW
        by_cases hj16 : j < 16
        · have hiy := index16 m Hm.out.len j hj16
          have hyb := Hm.out.bnd.at_ (by decide) j
          have hct : wr.cell? ⟨ga + 3, i + j, none⟩ = some (.int .i64 (t.getD (i + j) 0)) := by
            rw [HW.out.bt.cell, List.getElem?_toArray]; exact cellsZ_at (by rw [HA.out.len]; omega)
          have hf : wr.frozen? ⟨ga + 3, i + j, none⟩ = false := HW.out.bt.frozen _
          have hub := HA.out.big hi16 (by omega) (i + j)
          have hst := fun y u => HA.out.step hi16 hj16 Hm.out Hxb.out (y := y) (u := u)
          obtain ⟨y, hy⟩ : ∃ y, y = m.getD j 0 := ⟨_, rfl⟩
          obtain ⟨u, hu⟩ : ∃ u, u = t.getD (i + j) 0 := ⟨_, rfl⟩
          have HS := Lib.hid (hst y u hy hu)
          rw [← hy] at hiy hyb
          rw [← hu] at hct hub
          clear hst hy hu
          obtain ⟨hp1, hp2⟩ := mul_dig Hxb.out hyb
          obtain ⟨hy1, hy2⟩ := hyb
          obtain ⟨hu1, hu2⟩ := hub
          go_wp2_with fail
          go_roundw
          case rel =>
            have hW2 := HW.out.setT Hga.out (i + j) (u + x * y)
            first | exact ⟨j + 1, _, by omega, by go_num, HS.out, hW2⟩ | ((repeat apply Exists.intro); exact ⟨⟨j + 1, _, by omega, by go_num, HS.out, hW2⟩, rfl⟩)
          case measure => simp [intOf]; omega
        · obtain rfl : j = 16 := by omega
          have HN := Lib.hid (HA.out.outer hi16 Hl.out Hm.out Hx.out)
          go_wp2_with fail
          go_roundw
          case rel => exact ⟨i + 1, t, by omega, by go_num, HN.out, HW.out⟩
          case measure => simp [intOf]; omega
    · obtain rfl : i = 16 := by omega
      go_wp2_with fail
      go_loopw [35] (fun vk wr => ∃ (k : Nat) (r : List Int), k ≤ 16 ∧ vk = .int .i64 k ∧ FoldA t l r k ∧ MulW w ga r m t wr) (fun vk _ => 16 - (intOf vk).toNat)
      case atStart => exact ⟨0, l, by omega, rfl, FoldA.start Hl.out, HW.out⟩
      case round =>
        clear HW
        obtain ⟨k, r, hk, rfl, hF, hW⟩ := hrel
        have HF := Lib.hid hF
        have HW := Lib.hid hW
        clear hF hW
        by_cases hk16 : k < 16
        · have hc0 : wr.cell? ⟨ga + 3, k, none⟩ = some (.int .i64 (t.getD k 0)) := by
            rw [HW.out.bt.cell, List.getElem?_toArray]; exact cellsZ_at (by rw [HA.out.len]; omega)
          have hc1 : wr.cell? ⟨ga + 3, k + 16, none⟩ = some (.int .i64 (t.getD (k + 16) 0)) := by
            rw [HW.out.bt.cell, List.getElem?_toArray]; exact cellsZ_at (by rw [HA.out.len]; omega)
          have hc2 : wr.cell? ⟨ga, k, none⟩ = some (.int .i64 (r.getD k 0)) := by
            rw [HW.out.ba.cell, List.getElem?_toArray]; exact cellsZ_at (by rw [HF.out.len]; omega)
          have hf : wr.frozen? ⟨ga, k, none⟩ = false := HW.out.ba.frozen _
          have hxb := FoldA.xy HA.out k
          have hyb := FoldA.xy HA.out (k + 16)
          have hst := fun x y => HF.out.step HA.out hk16 (x := x) (y := y)
          obtain ⟨x, hx⟩ : ∃ x, x = t.getD k 0 := ⟨_, rfl⟩
          obtain ⟨y, hy⟩ : ∃ y, y = t.getD (k + 16) 0 := ⟨_, rfl⟩
          have HS := Lib.hid (hst x y hx hy)
          rw [← hx] at hc0 hxb
          rw [← hy] at hc1 hyb
          clear hst hx hy
          obtain ⟨hx1, hx2⟩ := hxb
          obtain ⟨hy1, hy2⟩ := hyb
          go_wp2_with fail
          go_region
          go_wp2_with fail
          go_roundw
          case rel =>
            have hW2 := (HW.out.setA Hga.out k (x + 38 * y)).drew
            first | exact ⟨k + 1, _, by omega, by go_num, HS.out, hW2⟩ | ((repeat apply Exists.intro); exact ⟨⟨k + 1, _, by omega, by go_num, HS.out, hW2⟩, rfl⟩)
          case measure => simp [intOf]; omega
        · obtain rfl : k = 16 := by omega
          go_wp2_with fail
          refine (carry_any ga r HF.out.len (HF.out.bnd.mono (by omega)) wr HW.out.ba).mono ?_
          rintro e w5 ⟨rfl, q, hq, hA5, hT5⟩
          have HW5 := Lib.hid (HW.out.carried Hga.out hA5 hT5)
          have Hq := Lib.hid hq
          clear hA5 hT5 hq
          go_wp2_with fail
          refine (carry_any ga q Hq.out.len ((Hq.out.bound HF.out.len HF.out.bnd (C := 999999999) (by omega) (by omega)).mono (by omega)) w5 HW5.out.ba).mono ?_
          rintro e w6 ⟨rfl, s, hs, hA6, hT6⟩
          have HW6 := Lib.hid (HW5.out.carried Hga.out hA6 hT6)
          obtain ⟨hr, hf⟩ := HF.out.red HA.out Hl.out Hq.out hs
          have Hr := Lib.hid hr
          have Hf := Lib.hid hf
          clear hA6 hT6 hs hr hf
          go_wp2_with (first | (refine wpList_loadE rfl (.tmp 2) rfl ga rfl 24 s Hr.out.len HW6.out.ba ?_) | (refine wpList_storeE rfl (.tmp 4) (.tmp 53) rfl (ga + 2) rfl s rfl 24 _ Hr.out.len rfl HW6.out.bc ?_))
          have HC6 := HW6.out.bc.setRow (cellsZ s).toArray
          refine bodyPost_ret (results_cell_row Try.results28 _ _ (ga + 2) 24 (cellsZ s).toArray (0, 0) _ rfl HC6 Try.underlying24 rfl (by rw [cellsZ_size, Hr.out.len]; exact infoE)) rfl ⟨s, Hr.out, Hf.out, rfl, HW6.out.touch.setRowE (.inr (by have := Hga.out; omega)) _⟩
end Go.Proofs.Ytbgpgbfiadhddaa
/- Rows of numbers that a function builds: what an append leaves, how they are read. -/
namespace Go.Proofs.Ytbgpgbfiadhddaa
open Go.RowKit
theorem info_parts {P : Program} {t : TypeId} {z : Value} {n b : Nat} (h : (P.info? t).map (fun i => (i.zero, i.size, i.bytes)) = some (some z, n, b)) :
    ∃ i, P.info? t = some i ∧ i.zero = some z ∧ i.size = n ∧ i.bytes = b := by
  cases hi : P.info? t with
  | none => rw [hi] at h; cases h
  | some i => rw [hi] at h; simp at h; exact ⟨i, rfl, h.1, h.2.1, h.2.2⟩
theorem infoInt : (Try.prog.info? 3).map (fun i => (i.zero, i.size, i.bytes)) = some (some (.int .i64 0), 1, 8) := by kernel_rfl
theorem infoU8 : (Try.prog.info? 5).map (fun i => (i.zero, i.size, i.bytes)) = some (some (.int .u8 0), 1, 1) := by kernel_rfl
theorem Touch.trans_new' {w w1 w2 : World} {S : List Nat} {row' : Option Nat} (h : Touch S w w1) (k : Touch row'.toList w1 w2) (hn : NewRow w none row') : Touch S w w2 :=
  ⟨k.os.trans h.os, k.tape.trans h.tape, k.output.trans h.output, Nat.le_trans h.size k.size, fun i hi hni => by
    refine (k.block i (Nat.lt_of_lt_of_le hi h.size) (fun hm => ?_)).trans (h.block i hi hni)
    rcases hn i (Option.mem_toList.1 hm) with h' | h'
    · cases h'
    · omega⟩
/-- A row of cells: where they lie. -/
theorem Own.cell1 {w : World} {e n : Nat} {v : Value} {xs : List Value} {row : Option Nat} (h : Own w e 1 v n xs row) (hn : 0 < n) :
    ∃ g off c, v = .slice (some ⟨g, off, none⟩) n c ∧ row = some g ∧ g < w.heap.size ∧ n ≤ c ∧ c ≤ maxLen ∧ (∀ i, w.frozen? ⟨g, i, none⟩ = false) ∧ ∀ k u, xs[k]? = some u → w.cell? ⟨g, off + k, none⟩ = some u := by
  obtain ⟨g, off, c, cur, rfl, hrow, hb, _, hnc, hcm, _, hx⟩ := h.at_ hn
  exact ⟨g, off, c, rfl, hrow, hb.lt, hnc, hcm, hb.frozen, fun k u hu => (hb.cell _).trans (hx _ _ hu)⟩
/-- One cell of it is written. -/
theorem Own.set1 {w : World} {e n g off c : Nat} {xs : List Value} {row : Option Nat} (h : Own w e 1 (.slice (some ⟨g, off, none⟩) n c) n xs row) (k : Nat) (hk : k < n) (u : Value) :
    Own (w.setCell ⟨g, off + k, none⟩ u) e 1 (.slice (some ⟨g, off, none⟩) n c) n (xs.set k u) row := by
  refine ⟨by rw [List.length_set]; exact h.1, ?_⟩
  obtain ⟨g', off', c', cur, hv, hrow, hb, h0, hnc, hcm, hcs, hx⟩ := h.at_ (by omega)
  injection hv with ha _ hcc
  injection ha with ha
  injection ha with h1 h2
  subst h1; subst h2; subst hcc
  refine .inr ⟨g, off, c, _, rfl, hrow, hb.set_ (off + k) u, h0, hnc, hcm, by simpa using hcs, fun j x hx' => ?_⟩
  by_cases hj : j = k
  · subst hj
    have hlen := h.1
    rw [List.getElem?_set_self (by omega)] at hx'
    rw [Array.getElem?_setIfInBounds_self_of_lt (by omega)]
    exact hx'
  · rw [List.getElem?_set_ne (Ne.symm hj)] at hx'
    rw [Array.getElem?_setIfInBounds_ne (by omega)]
    exact hx j x hx'
/-- Numbers as cells of a row of ints, of bytes. -/
def cellsI (l : List Nat) : List Value := l.map fun (n : Nat) => .int .i64 (n : Int)
theorem cellsI_len (l : List Nat) : (cellsI l).length = l.length := by simp [cellsI]
theorem cellsI_at {l : List Nat} {j : Nat} (h : j < l.length) : (cellsI l)[j]? = some (.int .i64 ((l.getD j 0 : Nat) : Int)) := by simp [cellsI, List.getD, h]
theorem cellsI_set (l : List Nat) (j x : Nat) : (cellsI l).set j (.int .i64 (x : Int)) = cellsI (l.set j x) := by simp [cellsI]
theorem cellsI_snoc (l : List Nat) (x : Nat) : cellsI (l ++ [x]) = cellsI l ++ [.int .i64 (x : Int)] := by simp [cellsI]
theorem cellsI_append (l m : List Nat) : cellsI (l ++ m) = cellsI l ++ cellsI m := by simp [cellsI]
theorem cellsI_one (l : List Nat) : ∀ u ∈ cellsI l, u.oneCell' = true := by
  intro u hu
  obtain ⟨n, _, rfl⟩ := List.mem_map.1 hu
  rfl
/-- A row of ints that is new behind w. -/
def NewI (w w' : World) (v : Value) (l : List Nat) : Prop := ∃ row, Own w' 3 1 v l.length (cellsI l) row ∧ Touch [] w w' ∧ NewRow w none row
theorem NewI.nil (w : World) (A : Option Addr) : NewI w w (.slice A 0 0) [] := ⟨none, Own.nil _ _ _ _, Touch.refl _ _, .refl _ _⟩
theorem NewI.more {w w1 w2 : World} {v : Value} {l : List Nat} (h : NewI w w1 v l) (k : Touch [] w1 w2) : NewI w w2 v l := by
  obtain ⟨row, ho, ht, hn⟩ := h
  exact ⟨row, ho.touch k (by simp), ht.trans k, hn⟩
theorem NewI.shape {w w1 : World} {v : Value} {l : List Nat} (h : NewI w w1 v l) : ∃ A c, v = .slice A l.length c ∧ l.length ≤ c := by
  obtain ⟨row, ho, _⟩ := h
  exact ho.shape
theorem NewI.own {w w1 : World} {v : Value} {l : List Nat} (h : NewI w w1 v l) : ∃ row, Own w1 3 1 v l.length (cellsI l) row := by
  obtain ⟨row, ho, _⟩ := h
  exact ⟨row, ho⟩
theorem NewI.touch {w w1 : World} {v : Value} {l : List Nat} (h : NewI w w1 v l) : Touch [] w w1 := by
  obtain ⟨row, _, ht, _⟩ := h
  exact ht
theorem NewI.before {w0 w w1 : World} {v : Value} {l : List Nat} (h : NewI w w1 v l) (k : Touch [] w0 w) : NewI w0 w1 v l := by
  obtain ⟨row, ho, ht, hn⟩ := h
  exact ⟨row, ho, k.trans ht, hn.before k.size⟩
theorem NewI.cells {w w1 : World} {v : Value} {l : List Nat} (h : NewI w w1 v l) (hl : 0 < l.length) :
    ∃ g off c, v = .slice (some ⟨g, off, none⟩) l.length c ∧ w.heap.size ≤ g ∧ l.length ≤ c ∧ c ≤ maxLen ∧ (∀ i, w1.frozen? ⟨g, i, none⟩ = false) ∧ ∀ k, k < l.length → w1.cell? ⟨g, off + k, none⟩ = some (.int .i64 ((l.getD k 0 : Nat) : Int)) := by
  obtain ⟨row, ho, ht, hn⟩ := h
  obtain ⟨g, off, c, hv, hr, _, hnc, hcm, hf, hx⟩ := ho.cell1 hl
  refine ⟨g, off, c, hv, ?_, hnc, hcm, hf, fun k hk => hx k _ (cellsI_at hk)⟩
  rcases hn g hr with h' | h'
  · cases h'
  · exact h'
theorem NewI.set {w w1 : World} {l : List Nat} {g off c : Nat} (h : NewI w w1 (.slice (some ⟨g, off, none⟩) l.length c) l) (k x : Nat) (hk : k < l.length) :
    NewI w (w1.setCell ⟨g, off + k, none⟩ (.int .i64 (x : Int))) (.slice (some ⟨g, off, none⟩) (l.set k x).length c) (l.set k x) := by
  obtain ⟨row, ho, ht, hn⟩ := h
  have hg : w.heap.size ≤ g := by
    obtain ⟨g', _, _, hv, hr, _⟩ := ho.cell1 (by omega)
    injection hv with ha _ _
    injection ha with ha
    injection ha with h1 _
    subst h1
    rcases hn g hr with h' | h'
    · cases h'
    · exact h'
  refine ⟨row, ?_, ht.setCell (.inr hg) _, hn⟩
  rw [List.length_set, ← cellsI_set]
  exact ho.set1 k hk _
/-- One number more. -/
theorem wpList_append_int (w0 : World) {ops : Array Oper} {rest : List Oper} {o : Oper} {a : Act} {Q : Exit → Act → World → Prop} (w : World) (s x : Operand) (t : TypeId)
    (ht : Try.prog.underlying t = some (.slice 3)) (hgd : o.guard = none)
    (ho : o.op = .call { callee := .builtin .append, args := #[s, x], argTypes := #[t, t] })
    {v : Value} {l : List Nat} (hown : NewI w0 w v l) (hl : l.length ≤ 1000000) (u : Nat) (ty : TypeId)
    (hv : a.eval s = v) (hx : a.eval x = .slice (some ⟨w.heap.size, 0, none⟩) 1 1)
    (h : ∀ A c w', NewI w0 w' (.slice A (l ++ [u]).length c) (l ++ [u]) → wpList Try.prog ops Q rest (a.put o.dst (.slice A (l ++ [u]).length c)) w') :
    wpList Try.prog ops Q (o :: rest) a (w.alloc (.cells #[.int .i64 (u : Int)] ty)) := by
  obtain ⟨row, hw, hto, hn⟩ := hown
  obtain ⟨i, hi, hz, hs, hb⟩ := info_parts infoInt
  refine wpList_append_Own _ hgd s x t t ho 3 i _ 1 8 ht hi hz hs hb rfl v l.length (cellsI l) row hv (hw.alloc _) _ 1 [.int .i64 (u : Int)] hx (Src.one ht w ty _ rfl) (by unfold maxLen; omega) (by omega) ?_
  intro v' w' row' h1 h2 h3
  obtain ⟨A, c, rfl, _⟩ := h1.shape
  rw [← cellsI_snoc] at h1
  have hl : (l ++ [u]).length = l.length + 1 := by simp
  rw [← hl] at h1 ⊢
  exact h A c w' ⟨row', h1, Touch.trans_new' (hto.alloc _) h2 hn, hn.trans h3 (by have := hto.size; simp; omega)⟩
/-- Bytes so. -/
def cellsU8 (l : List Nat) : List Value := l.map fun (n : Nat) => .int .u8 (n : Int)
def NewU (w w' : World) (v : Value) (l : List Nat) : Prop := ∃ row, Own w' 5 1 v l.length (cellsU8 l) row ∧ Touch [] w w' ∧ NewRow w none row
theorem NewU.nil (w : World) (A : Option Addr) : NewU w w (.slice A 0 0) [] := ⟨none, Own.nil _ _ _ _, Touch.refl _ _, .refl _ _⟩
theorem NewU.touch {w w1 : World} {v : Value} {l : List Nat} (h : NewU w w1 v l) : Touch [] w w1 := by
  obtain ⟨row, _, ht, _⟩ := h
  exact ht
theorem NewU.before {w0 w w1 : World} {v : Value} {l : List Nat} (h : NewU w w1 v l) (k : Touch [] w0 w) : NewU w0 w1 v l := by
  obtain ⟨row, ho, ht, hn⟩ := h
  exact ⟨row, ho, k.trans ht, hn.before k.size⟩
theorem NewU.more {w w1 w2 : World} {v : Value} {l : List Nat} (h : NewU w w1 v l) (k : Touch [] w1 w2) : NewU w w2 v l := by
  obtain ⟨row, ho, ht, hn⟩ := h
  exact ⟨row, ho.touch k (by simp), ht.trans k, hn⟩
theorem NewU.shape {w w1 : World} {v : Value} {l : List Nat} (h : NewU w w1 v l) : ∃ A c, v = .slice A l.length c ∧ l.length ≤ c := by
  obtain ⟨row, ho, _⟩ := h
  exact ho.shape
theorem cellsU8_at {l : List Nat} {j : Nat} (h : j < l.length) : (cellsU8 l)[j]? = some (.int .u8 ((l.getD j 0 : Nat) : Int)) := by simp [cellsU8, List.getD, h]
theorem NewU.cells {w w1 : World} {v : Value} {l : List Nat} (h : NewU w w1 v l) (hl : 0 < l.length) :
    ∃ g off c, v = .slice (some ⟨g, off, none⟩) l.length c ∧ w.heap.size ≤ g ∧ l.length ≤ c ∧ c ≤ maxLen ∧ (∀ i, w1.frozen? ⟨g, i, none⟩ = false) ∧ ∀ k, k < l.length → w1.cell? ⟨g, off + k, none⟩ = some (.int .u8 ((l.getD k 0 : Nat) : Int)) := by
  obtain ⟨row, ho, ht, hn⟩ := h
  obtain ⟨g, off, c, hv, hr, _, hnc, hcm, hf, hx⟩ := ho.cell1 hl
  refine ⟨g, off, c, hv, ?_, hnc, hcm, hf, fun k hk => hx k _ (cellsU8_at hk)⟩
  rcases hn g hr with h' | h'
  · cases h'
  · exact h'
theorem wpList_append_byte (w0 : World) {ops : Array Oper} {rest : List Oper} {o : Oper} {a : Act} {Q : Exit → Act → World → Prop} (w : World) (s x : Operand) (t : TypeId)
    (ht : Try.prog.underlying t = some (.slice 5)) (hgd : o.guard = none)
    (ho : o.op = .call { callee := .builtin .append, args := #[s, x], argTypes := #[t, t] })
    {v : Value} {l : List Nat} (hown : NewU w0 w v l) (hl : l.length ≤ 1000000) (u : Nat) (ty : TypeId)
    (hv : a.eval s = v) (hx : a.eval x = .slice (some ⟨w.heap.size, 0, none⟩) 1 1)
    (h : ∀ A c w', NewU w0 w' (.slice A (l ++ [u]).length c) (l ++ [u]) → wpList Try.prog ops Q rest (a.put o.dst (.slice A (l ++ [u]).length c)) w') :
    wpList Try.prog ops Q (o :: rest) a (w.alloc (.cells #[.int .u8 (u : Int)] ty)) := by
  obtain ⟨row, hw, hto, hn⟩ := hown
  obtain ⟨i, hi, hz, hs, hb⟩ := info_parts infoU8
  refine wpList_append_Own _ hgd s x t t ho 5 i _ 1 1 ht hi hz hs hb rfl v l.length (cellsU8 l) row hv (hw.alloc _) _ 1 [.int .u8 (u : Int)] hx (Src.one ht w ty _ rfl) (by unfold maxLen; omega) (by omega) ?_
  intro v' w' row' h1 h2 h3
  obtain ⟨A, c, rfl, _⟩ := h1.shape
  have hc : cellsU8 l ++ [.int .u8 (u : Int)] = cellsU8 (l ++ [u]) := by simp [cellsU8]
  rw [hc] at h1
  have hl : (l ++ [u]).length = l.length + 1 := by simp
  rw [← hl] at h1 ⊢
  exact h A c w' ⟨row', h1, Touch.trans_new' (hto.alloc _) h2 hn, hn.trans h3 (by have := hto.size; simp; omega)⟩
end Go.Proofs.Ytbgpgbfiadhddaa
