/- The scalars: cut, negative; the document's product and sum. -/
import Derived.Test.YtbgpgbfiadhddaaDoorNum
import Derived.Test.YtbgpgbfiadhddaaDoorRows
import Derived.Test.YtbgpgbfiadhddaaDoorBytes
import Derived.Test.YtbgpgbfiadhddaaDoorGrow
import Derived.WalkKit
import Derived.WalkLawsBesides
import Derived.Lib.Hide
import Derived.Deep.QuietTactic
import Derived.BigQuiet
import Derived.Deep.RegionHeld3
import Derived.RegionTactic
import Derived.Deep.DeepCutAuto
import Derived.Deep.CutBlock
import Derived.Deep.LoopGhost
import Derived.Shelf.Spec.BitsCarry
import Derived.StillTailTactics
import Derived.Laws.CopyRow
import Derived.Lib.Strings
import Derived.Lib.LazyBuf
import Derived.Lib.BufferWrite
import Derived.BigRegion
namespace Go.Proofs.YtbgpgbfiadhddaaDoor
open Go Go.RowKit
/-! Bits64 -/
theorem sub64_run (x y b : Nat) (hb : b ≤ 1) (w : World) :
    (callFunc 52 #[.int .u64 (x : Int), .int .u64 (y : Int), .int .u64 (b : Int)]).run Tryd.prog w =
      .ok (.value (.tuple #[.int .u64 (((x + 18446744073709551616 - y - b) % 18446744073709551616 : Nat) : Int), .int .u64 ((if x < y + b then 1 else 0 : Nat) : Int)])) w := by
  rw [run_callFunc_extern Tryd.func52 (by kernel_rfl) (by kernel_rfl) (by kernel_rfl) (e := sub64Entry) (by kernel_rfl), run_sub64 x y b hb]
  rfl
/-! Sub -/
def numV (l : List Nat) : Value := .agg (cellsN l).toArray
/-- What sub leaves: words r and a borrow u. -/
def SubPost (a b : List Nat) (w : World) (e : Ending) (w' : World) : Prop :=
  ∃ (r : List Nat) (u : Nat), r.length = 4 ∧ Words r ∧ u ≤ 1 ∧ val r + val b = val a + u * 18446744073709551616 ^ 4 ∧ e = .returned (.tuple #[numV r, .bool (decide (0 < u))]) ∧ Touch [] w w'
theorem sub_step {a b r : List Nat} {u k x : Nat} (hk : k < 4) (ha : a.length = 4) (hb : b.length = 4) (hr : r.length = 4) (wa : Words a) (wb : Words b) (hu : u ≤ 1)
    (hd : r.drop k = a.drop k) (hv : val (r.take k) + val (b.take k) = val (a.take k) + u * 18446744073709551616 ^ k)
    (hx : x = (r.getD k 0 + 18446744073709551616 - b.getD k 0 - u) % 18446744073709551616) (u' : Nat) (hu' : u' = if r.getD k 0 < b.getD k 0 + u then 1 else 0) :
    (r.set k x).drop (k + 1) = a.drop (k + 1) ∧ val ((r.set k x).take (k + 1)) + val (b.take (k + 1)) = val (a.take (k + 1)) + u' * 18446744073709551616 ^ (k + 1) := by
  have e0 : r.getD k 0 = a.getD k 0 := by
    have h := congrArg (fun l => l.getD 0 0) hd
    simpa [List.getD] using h
  have e1 : (r.set k x).getD k 0 = x := by simp [List.getD, hr, hk]
  have e2 : (r.set k x).take k = r.take k := by simp [List.take_set_of_le]
  constructor
  · rw [List.drop_set, if_pos (by omega), ← List.drop_drop, ← List.drop_drop, hd]
  · rw [val_take_succ (by rw [List.length_set]; omega), val_take_succ (by omega), val_take_succ (by omega), e1, e2, Nat.pow_succ]
    have h1 := wa.at_ k
    have h2 := wb.at_ k
    rw [e0] at hx hu'
    have h3 : x + b.getD k 0 + u = a.getD k 0 + u' * 18446744073709551616 := by
      rw [hu', hx]
      split <;> omega
    grind
set_option maxRecDepth 100000 in
set_option maxHeartbeats 2000000 in
theorem sc_sub_any (a b : List Nat) (ha : a.length = 4) (hb : b.length = 4) (wa : Words a) (wb : Words b) (w : World) :
    Calls Tryd.prog 28 #[numV a, numV b] w (SubPost a b w) := by
  have Ha := Lib.hid ha
  have Hb := Lib.hid hb
  have Wa := Lib.hid wa
  have Wb := Lib.hid wb
  clear ha hb wa wb
  unfold numV
  go_enter Tryd.func28, Tryd.ntmps28
  go_wp2_with fail
  have hz0 : (cellsN [0, 0, 0, 0]).toArray = #[.int .u64 0, .int .u64 0, .int .u64 0, .int .u64 0] := rfl
  rw [← hz0]
  obtain ⟨w1, hw1⟩ : ∃ w1, w1 = ((w.alloc (.cells (cellsN a).toArray 39)).alloc (.cells (cellsN b).toArray 39)).alloc (.cells (cellsN [0, 0, 0, 0]).toArray 39) := ⟨_, rfl⟩
  have hA : Blk w1 w.heap.size 39 (cellsN a).toArray := by rw [hw1]; exact ((Blk.new _ _ _).alloc _).alloc _
  have hB : Blk w1 (w.heap.size + 1) 39 (cellsN b).toArray := by
    have := (Blk.new (w.alloc (.cells (cellsN a).toArray 39)) 39 (cellsN b).toArray).alloc (.cells (cellsN [0, 0, 0, 0]).toArray 39)
    rw [hw1]; simpa using this
  have hC : Blk w1 (w.heap.size + 1 + 1) 39 (cellsN [0, 0, 0, 0]).toArray := by
    have := Blk.new ((w.alloc (.cells (cellsN a).toArray 39)).alloc (.cells (cellsN b).toArray 39)) 39 (cellsN [0, 0, 0, 0]).toArray
    rw [hw1]; simpa using this
  have hT : Touch [] w w1 := by rw [hw1]; exact (((Touch.refl _ _).alloc _).alloc _).alloc _
  rw [← hw1]
  obtain ⟨ga, hga⟩ : ∃ ga, ga = w.heap.size := ⟨_, rfl⟩
  have Hga := Lib.hid hga
  rw [← hga] at hA hB hC
  rw [← hga]
  clear hw1 hz0 hga
  go_loopw [6, 8] (fun vu vi wr => ∃ (k u : Nat) (r : List Nat), k ≤ 4 ∧ vi = .int .i64 k ∧ vu = .int .u64 (u : Int) ∧ r.length = 4 ∧ Words r ∧ u ≤ 1 ∧ r.drop k = a.drop k ∧ val (r.take k) + val (b.take k) = val (a.take k) + u * 18446744073709551616 ^ k ∧
    Blk wr ga 39 (cellsN r).toArray ∧ Blk wr (ga + 1) 39 (cellsN b).toArray ∧ Blk wr (ga + 1 + 1) 39 (cellsN [0, 0, 0, 0]).toArray ∧ Touch [] w wr) (fun _ vi _ => 4 - (intOf vi).toNat)
  case atStart => exact ⟨0, 0, a, by omega, rfl, rfl, Ha.out, Wa.out, by omega, rfl, by simp [val], hA, hB, hC, hT⟩
  case round =>
    obtain ⟨k, u, r, hk, rfl, rfl, hr, wr', hu, hd, hv, hA', hB', hC', hT'⟩ := hrel
    clear hA hB hC hT
    have Hr := Lib.hid hr
    have Wr := Lib.hid wr'
    have Hd := Lib.hid hd
    have Hv := Lib.hid hv
    have HA := Lib.hid hA'
    have HB := Lib.hid hB'
    have HC := Lib.hid hC'
    have HT := Lib.hid hT'
    clear hr wr' hd hv hA' hB' hC' hT'
    by_cases hk4 : k < 4
    · have hca : wr.cell? ⟨ga, k, none⟩ = some (.int .u64 ((r.getD k 0 : Nat) : Int)) := by
        rw [HA.out.cell, List.getElem?_toArray]; exact cellsN_at (by rw [Hr.out]; exact hk4)
      have hcb : wr.cell? ⟨ga + 1, k, none⟩ = some (.int .u64 ((b.getD k 0 : Nat) : Int)) := by
        rw [HB.out.cell, List.getElem?_toArray]; exact cellsN_at (by rw [Hb.out]; exact hk4)
      have hfr : wr.frozen? ⟨ga, k, none⟩ = false := HA.out.frozen k
      have hstep := sub_step hk4 Ha.out Hb.out Hr.out Wa.out Wb.out hu Hd.out Hv.out rfl _ rfl
      obtain ⟨x, hx⟩ : ∃ x, x = r.getD k 0 := ⟨_, rfl⟩
      obtain ⟨y, hy⟩ : ∃ y, y = b.getD k 0 := ⟨_, rfl⟩
      rw [← hx, ← hy] at hstep
      rw [← hx] at hca
      rw [← hy] at hcb
      have hrun := sub64_run x y u hu
      obtain ⟨u', hu'⟩ : ∃ u', u' = (if x < y + u then 1 else 0 : Nat) := ⟨_, rfl⟩
      have hu1 : u' ≤ 1 := by rw [hu']; split <;> omega
      obtain ⟨z, hz⟩ : ∃ z, z = (x + 18446744073709551616 - y - u) % 18446744073709551616 := ⟨_, rfl⟩
      have hz1 : z < 18446744073709551616 := by rw [hz]; omega
      rw [← hu', ← hz] at hstep
      have hrun' : ∀ w : World, (callFunc 52 #[.int .u64 (x : Int), .int .u64 (y : Int), .int .u64 (u : Int)]).run Tryd.prog w = .ok (.value (.tuple #[.int .u64 (z : Int), .int .u64 (u' : Int)])) w := fun w => by rw [hz, hu']; exact hrun w
      have Hstep := Lib.hid hstep
      clear hrun hu' hz hstep hx hy
      go_wp2_with fail
      go_region
      go_wp2_with fail
      go_roundw
      case rel =>
        have ht : Touch [] w (wr.setCell ⟨ga, k, none⟩ (.int .u64 (z : Int))) := HT.out.setCell (p := ⟨ga, k, none⟩) (.inr (by rw [Hga.out]; exact Nat.le_refl _)) _
        have hA2 := HA.out.set_ k (.int .u64 (z : Int))
        have hset : (cellsN r).toArray.setIfInBounds k (.int .u64 (z : Int)) = (cellsN (r.set k z)).toArray := by rw [← cellsN_set]; simp
        rw [hset] at hA2
        exact ⟨k + 1, u', r.set k z, by omega, by go_num, rfl, by rw [List.length_set]; exact Hr.out, Wr.out.set k hz1, hu1, Hstep.out.1, Hstep.out.2, hA2.drew, (HB.out.far (p := ⟨ga, k, none⟩) (by simp) _).drew, (HC.out.far (p := ⟨ga, k, none⟩) (by simp; omega) _).drew, ht.drew⟩
      case measure => simp [intOf]; omega
    · obtain rfl : k = 4 := by omega
      have hv4 : val r + val b = val a + u * 18446744073709551616 ^ 4 := by
        have h := Hv.out
        rw [List.take_of_length_le (by rw [Hr.out]; omega), List.take_of_length_le (by rw [Hb.out]; omega), List.take_of_length_le (by rw [Ha.out]; omega)] at h
        exact h
      have Hv4 := Lib.hid hv4
      have hr := Hr.out
      obtain ⟨r0, r1, r2, r3, rfl⟩ : ∃ r0 r1 r2 r3, r = [r0, r1, r2, r3] := by
        match r, hr with
        | [r0, r1, r2, r3], _ => exact ⟨r0, r1, r2, r3, rfl⟩
      have c0 : wr.cell? ⟨ga, 0, none⟩ = some (.int .u64 (r0 : Int)) := HA.out.cell 0
      have c1 : wr.cell? ⟨ga, 1, none⟩ = some (.int .u64 (r1 : Int)) := HA.out.cell 1
      have c2 : wr.cell? ⟨ga, 2, none⟩ = some (.int .u64 (r2 : Int)) := HA.out.cell 2
      have c3 : wr.cell? ⟨ga, 3, none⟩ = some (.int .u64 (r3 : Int)) := HA.out.cell 3
      have d0 : wr.cell? ⟨ga + 1 + 1, 0, none⟩ = some (.int .u64 0) := HC.out.cell 0
      have d1 : wr.cell? ⟨ga + 1 + 1, 1, none⟩ = some (.int .u64 0) := HC.out.cell 1
      have d2 : wr.cell? ⟨ga + 1 + 1, 2, none⟩ = some (.int .u64 0) := HC.out.cell 2
      have d3 : wr.cell? ⟨ga + 1 + 1, 3, none⟩ = some (.int .u64 0) := HC.out.cell 3
      have f0 : ∀ j, wr.frozen? ⟨ga + 1 + 1, j, none⟩ = false := fun j => HC.out.frozen j
      clear hr hv4
      go_wp2_with fail
      have hC5 := (((HC.out.set_ 0 (.int .u64 (r0 : Int))).set_ 1 (.int .u64 (r1 : Int))).set_ 2 (.int .u64 (r2 : Int))).set_ 3 (.int .u64 (r3 : Int))
      have hg : ga + 1 + 1 ∈ ([] : List Nat) ∨ w.heap.size ≤ ga + 1 + 1 := .inr (by have := Hga.out; omega)
      have ht5 : Touch [] w _ := (((HT.out.setCell (p := ⟨ga + 1 + 1, 0, none⟩) hg (.int .u64 (r0 : Int))).setCell (p := ⟨ga + 1 + 1, 1, none⟩) hg (.int .u64 (r1 : Int))).setCell (p := ⟨ga + 1 + 1, 2, none⟩) hg (.int .u64 (r2 : Int))).setCell (p := ⟨ga + 1 + 1, 3, none⟩) hg (.int .u64 (r3 : Int))
      obtain ⟨w5, hw5⟩ : ∃ w5, w5 = (((wr.setCell ⟨ga + 1 + 1, 0, none⟩ (.int .u64 (r0 : Int))).setCell ⟨ga + 1 + 1, 1, none⟩ (.int .u64 (r1 : Int))).setCell ⟨ga + 1 + 1, 2, none⟩ (.int .u64 (r2 : Int))).setCell ⟨ga + 1 + 1, 3, none⟩ (.int .u64 (r3 : Int)) := ⟨_, rfl⟩
      rw [← hw5] at hC5 ht5 ⊢
      have e0 : w5.cell? ⟨ga + 1 + 1, 0, none⟩ = some (.int .u64 (r0 : Int)) := hC5.cell 0
      have e1 : w5.cell? ⟨ga + 1 + 1, 1, none⟩ = some (.int .u64 (r1 : Int)) := hC5.cell 1
      have e2 : w5.cell? ⟨ga + 1 + 1, 2, none⟩ = some (.int .u64 (r2 : Int)) := hC5.cell 2
      have e3 : w5.cell? ⟨ga + 1 + 1, 3, none⟩ = some (.int .u64 (r3 : Int)) := hC5.cell 3
      have hfin : SubPost a b w (.returned (.tuple #[.agg #[.int .u64 (r0 : Int), .int .u64 (r1 : Int), .int .u64 (r2 : Int), .int .u64 (r3 : Int)], .bool (decide (0 < u))])) w5 := ⟨[r0, r1, r2, r3], u, rfl, Wr.out, hu, Hv4.out, rfl, ht5⟩
      clear hC5 hw5 c0 c1 c2 c3 d0 d1 d2 d3 f0
      simp [bodyPost, results, Tryd.results28, go_sem, e0, e1, e2, e3]
      exact hfin
/-! Cut -/
def ordW : List Nat := [6346243789798364141, 1503914060200516822, 0, 1152921504606846976]
def ell : Nat := 7237005577332262213973186563042994240857116359379907606001950938285454250989
theorem val_ord : val ordW = ell := by decide
/-- The order lies in the program's variable. -/
def Ord (w : World) : Prop := 0 < w.heap.size ∧ ∀ j, j < 4 → w.cell? ⟨0, j, none⟩ = some (.int .u64 ((ordW.getD j 0 : Nat) : Int))
theorem Ord.touch {w w' : World} (h : Ord w) (ht : Touch [] w w') : Ord w' :=
  ⟨Nat.lt_of_lt_of_le h.1 ht.size, fun j hj => (ht.cell (p := ⟨0, j, none⟩) h.1 (by simp)).trans (h.2 j hj)⟩
/-- A binary digit of words. -/
theorem val_bit {ws : List Nat} (h : Words ws) (k : Nat) (hk : k / 64 < ws.length) : val ws / 2 ^ k % 2 = ws.getD (k / 64) 0 / 2 ^ (k % 64) % 2 := by
  induction ws generalizing k with
  | nil => simp at hk
  | cons x l ih =>
    have hx := h x List.mem_cons_self
    by_cases hk64 : k < 64
    · rw [show k / 64 = 0 by omega, show k % 64 = k by omega]
      show (x + 18446744073709551616 * val l) / 2 ^ k % 2 = x / 2 ^ k % 2
      have e : (18446744073709551616 : Nat) = 2 ^ k * (2 * 2 ^ (63 - k)) := by
        rw [← Nat.mul_assoc, Nat.mul_comm (2 ^ k) 2, Nat.mul_assoc, ← Nat.pow_add, show k + (63 - k) = 63 by omega]
      rw [e, Nat.mul_assoc, Nat.add_mul_div_left _ _ (Nat.two_pow_pos k), Nat.mul_assoc, Nat.add_mul_mod_self_left]
    · have e1 : k / 64 = (k - 64) / 64 + 1 := by omega
      have e2 : k % 64 = (k - 64) % 64 := by omega
      have e3 : (x :: l).getD ((k - 64) / 64 + 1) 0 = l.getD ((k - 64) / 64) 0 := by simp [List.getD]
      rw [e1, e2, e3, ← ih (fun y hy => h y (List.mem_cons_of_mem _ hy)) (k - 64) (by simp at hk; omega)]
      rw [show 2 ^ k = 18446744073709551616 * 2 ^ (k - 64) by rw [show (18446744073709551616 : Nat) = 2 ^ 64 by decide, ← Nat.pow_add]; congr 1; omega, ← Nat.div_div_eq_div_mul]
      rw [val, show (x + 18446744073709551616 * val l) / 18446744073709551616 = val l by omega]
theorem words0 : Words [0, 0, 0, 0] := fun x hx => by simp at hx; omega
theorem and_one (y : Nat) (hy : y < 18446744073709551616) : bits .and .u64 (y : Int) 1 = ((y % 2 : Nat) : Int) := by
  have h := bits_and_u64_nat y 1 hy (by omega)
  rw [Nat.and_one_is_mod] at h
  exact h
theorem index4 (a0 a1 a2 a3 j : Nat) (hj : j < 4) (W : World) :
    (Instr.index 39 (.agg #[.int .u64 (a0 : Int), .int .u64 (a1 : Int), .int .u64 (a2 : Int), .int .u64 (a3 : Int)]) (.int .i64 (j : Int))).run Tryd.prog W = .ok (.int .u64 (([a0, a1, a2, a3].getD j 0 : Nat) : Int)) W := by
  have : j = 0 ∨ j = 1 ∨ j = 2 ∨ j = 3 := by omega
  rcases this with rfl | rfl | rfl | rfl <;> rfl
theorem shl_or (y cy : Nat) (hc : cy ≤ 1) : bits .or .u64 (IntKind.u64.wrap ((y : Int) * 2)) (cy : Int) = ((2 * y % 18446744073709551616 + cy : Nat) : Int) := by
  have e : IntKind.u64.wrap ((y : Int) * 2) = ((2 * y % 18446744073709551616 : Nat) : Int) := by
    simp [IntKind.wrap, IntKind.signed, IntKind.bits]; omega
  rw [e, bits_or_u64_nat _ _ (by omega) (by omega)]
  have h := Nat.shiftLeft_add_eq_or_of_lt (i := 1) (b := cy) (by omega) (2 * y % 18446744073709551616 / 2)
  rw [Nat.shiftLeft_eq, show 2 * y % 18446744073709551616 / 2 * 2 ^ 1 = 2 * y % 18446744073709551616 by omega] at h
  rw [h]
theorem shl_step {a r : List Nat} {cy j y bit : Nat} (hj : j < 4) (ha : a.length = 4) (hr : r.length = 4) (wa : Words a) (hy : y = a.getD j 0)
    (hd : r.drop j = a.drop j) (hv : val (r.take j) + cy * 18446744073709551616 ^ j = 2 * val (a.take j) + bit) :
    (r.set j (2 * y % 18446744073709551616 + cy)).drop (j + 1) = a.drop (j + 1) ∧ val ((r.set j (2 * y % 18446744073709551616 + cy)).take (j + 1)) + y / 9223372036854775808 * 18446744073709551616 ^ (j + 1) = 2 * val (a.take (j + 1)) + bit := by
  have e1 : (r.set j (2 * y % 18446744073709551616 + cy)).getD j 0 = 2 * y % 18446744073709551616 + cy := by simp [List.getD, hr, hj]
  have e2 : (r.set j (2 * y % 18446744073709551616 + cy)).take j = r.take j := by simp [List.take_set_of_le]
  constructor
  · rw [List.drop_set, if_pos (by omega), ← List.drop_drop, ← List.drop_drop, hd]
  · rw [val_take_succ (by rw [List.length_set]; omega), val_take_succ (by omega), e1, e2, Nat.pow_succ, ← hy]
    have h1 := wa.at_ j
    rw [← hy] at h1
    have h3 : 2 * y % 18446744073709551616 + y / 9223372036854775808 * 18446744073709551616 = 2 * y := by omega
    generalize 2 * y % 18446744073709551616 = z at *
    generalize y / 9223372036854775808 = cz at *
    grind
/-- One binary digit more, modulo. -/
theorem cut_step {V k n d v bit : Nat} (hk : k = n - 1 - d) (hd : d < n) (hv : v = V / 2 ^ (n - d) % ell) (hb : bit = V / 2 ^ k % 2) :
    (2 * v + bit) % ell = V / 2 ^ (n - (d + 1)) % ell ∧ 2 * v + bit < 2 * ell := by
  have e1 : n - d = k + 1 := by omega
  have e2 : n - (d + 1) = k := by omega
  rw [e1, Nat.pow_succ, ← Nat.div_div_eq_div_mul] at hv
  rw [e2]
  generalize V / 2 ^ k = q at *
  have h : q = 2 * (q / 2) + q % 2 := by omega
  have hl : 0 < ell := by decide
  have hlt : v < ell := by rw [hv]; exact Nat.mod_lt _ hl
  constructor
  · subst hb
    conv => rhs; rw [h]
    rw [hv]
    conv => rhs; rw [Nat.add_mod, Nat.mul_mod]
    conv => lhs; rw [Nat.add_mod, Nat.mul_mod, Nat.mod_mod]
  · omega
theorem val4_lt {l : List Nat} (h : Words l) (hl : l.length = 4) : val l < 115792089237316195423570985008687907853269984665640564039457584007913129639936 := by
  have h1 := val_lt h
  rw [hl] at h1
  exact Nat.lt_of_lt_of_eq h1 (by decide)
theorem cut_less {s r l : Nat} (h : s + val ordW = r + 0 * 18446744073709551616 ^ 4) (hm : r % ell = l) (hl : r < 2 * ell) : s = l := by
  rw [val_ord, Nat.zero_mul, Nat.add_zero] at h
  rw [← h, Nat.add_mod_right, Nat.mod_eq_of_lt (by omega)] at hm
  exact hm
theorem cut_below {s r l : Nat} (h : s + val ordW = r + 1 * 18446744073709551616 ^ 4) (hs : s < 115792089237316195423570985008687907853269984665640564039457584007913129639936) (hm : r % ell = l) : r = l := by
  rw [val_ord, Nat.one_mul, show (18446744073709551616 : Nat) ^ 4 = 115792089237316195423570985008687907853269984665640564039457584007913129639936 by decide] at h
  rw [Nat.mod_eq_of_lt (by omega)] at hm
  exact hm
def CutPost (ws : List Nat) (w : World) (e : Ending) (w' : World) : Prop :=
  ∃ r : List Nat, r.length = 4 ∧ Words r ∧ val r = val ws % ell ∧ e = .returned (numV r) ∧ Touch [] w w'
set_option maxRecDepth 100000 in
set_option maxHeartbeats 2000000 in
theorem cut_any {te : TypeId} (v : Value) (ws : List Nat) (row : Option Nat) (hn : ws.length ≤ 9) (hw : Words ws) (w : World) (ho : Own w te 1 v ws.length (cellsN ws) row) (hord : Ord w) :
    Calls Tryd.prog 13 #[v] w (CutPost ws w) := by
  obtain ⟨A, c, rfl, hnc⟩ := ho.shape
  have Ho := Lib.hid ho
  have Hord := Lib.hid hord
  have Hw := Lib.hid hw
  clear ho hord hw
  go_enter Tryd.func13, Tryd.ntmps13
  go_wp2_with fail
  go_step3
  go_wp2_with fail
  go_step3
  go_wp2_with fail
  have hz0 : (cellsN [0, 0, 0, 0]).toArray = #[.int .u64 0, .int .u64 0, .int .u64 0, .int .u64 0] := rfl
  rw [← hz0]
  obtain ⟨w1, hw1⟩ : ∃ w1, w1 = (w.alloc (.cells (cellsN [0, 0, 0, 0]).toArray 39)).alloc (.cells (cellsN [0, 0, 0, 0]).toArray 39) := ⟨_, rfl⟩
  have hB : Blk w1 w.heap.size 39 (cellsN [0, 0, 0, 0]).toArray := by rw [hw1]; exact (Blk.new _ _ _).alloc _
  have hA : Blk w1 (w.heap.size + 1) 39 (cellsN [0, 0, 0, 0]).toArray := by
    have := Blk.new (w.alloc (.cells (cellsN [0, 0, 0, 0]).toArray 39)) 39 (cellsN [0, 0, 0, 0]).toArray
    rw [hw1]; simpa using this
  have hT : Touch [] w w1 := by rw [hw1]; exact ((Touch.refl _ _).alloc _).alloc _
  rw [← hw1]
  obtain ⟨gb, hgb⟩ : ∃ gb, gb = w.heap.size := ⟨_, rfl⟩
  have Hgb := Lib.hid hgb
  rw [← hgb] at hA hB
  rw [← hgb]
  clear hw1 hz0 hgb
  go_loopw [4] (fun vi wr => ∃ (d : Nat) (a : List Nat), d ≤ 64 * ws.length ∧ vi = .int .i64 (64 * (ws.length : Int) - 1 - d) ∧ a.length = 4 ∧ Words a ∧ val a = val ws / 2 ^ (64 * ws.length - d) % ell ∧
    Blk wr gb 39 (cellsN [0, 0, 0, 0]).toArray ∧ Blk wr (gb + 1) 39 (cellsN a).toArray ∧ Touch [] w wr) (fun vi _ => (intOf vi + 1).toNat)
  case atStart =>
    refine ⟨0, [0, 0, 0, 0], by omega, by simp, rfl, words0, ?_, hB, hA, hT⟩
    have := val_lt Hw.out
    rw [show (18446744073709551616 : Nat) = 2 ^ 64 by decide, ← Nat.pow_mul] at this
    rw [Nat.sub_zero, Nat.div_eq_of_lt this]; decide
  case round =>
    obtain ⟨d, a, hd, rfl, ha, wa, hv, hB', hA', hT'⟩ := hrel
    clear hA hB hT
    have Ha := Lib.hid ha
    have Wa := Lib.hid wa
    have Hv := Lib.hid hv
    have HA := Lib.hid hA'
    have HB := Lib.hid hB'
    have HT := Lib.hid hT'
    clear ha wa hv hA' hB' hT'
    by_cases hlt : d < 64 * ws.length
    · obtain ⟨k, hk⟩ : ∃ k, k = 64 * ws.length - 1 - d := ⟨_, rfl⟩
      have hkd : (64 * (ws.length : Int) - 1 - d) = (k : Nat) := by omega
      have hkl : k < 64 * ws.length := by omega
      have hk64 : k / 64 < ws.length := by omega
      rw [hkd]
      have Hkd := Lib.hid hkd
      have Hk := Lib.hid hk
      clear hkd hk
      have hor := Ho.out.touch HT.out (by simp)
      obtain ⟨g, off, c', cur, hv, hrw, hg, _, _, _, _, hx⟩ := hor.at_ (by omega)
      injection hv with hA _ hcc
      subst hA; subst hcc
      have hcw : wr.cell? ⟨g, off + k / 64, none⟩ = some (.int .u64 ((ws.getD (k / 64) 0 : Nat) : Int)) := (hg.cell _).trans (hx _ _ (cellsN_at hk64))
      have hxw := Hw.out.at_ (k / 64)
      obtain ⟨x, hxe⟩ : ∃ x, x = ws.getD (k / 64) 0 := ⟨_, rfl⟩
      rw [← hxe] at hcw hxw
      have Hxe := Lib.hid hxe
      clear hxe hor hrw hg hx
      obtain ⟨a0, a1, a2, a3, rfl⟩ : ∃ a0 a1 a2 a3, a = [a0, a1, a2, a3] := by
        have := Ha.out
        match a, this with
        | [a0, a1, a2, a3], _ => exact ⟨a0, a1, a2, a3, rfl⟩
      have c0 : wr.cell? ⟨gb + 1, 0, none⟩ = some (.int .u64 (a0 : Int)) := HA.out.cell 0
      have c1 : wr.cell? ⟨gb + 1, 1, none⟩ = some (.int .u64 (a1 : Int)) := HA.out.cell 1
      have c2 : wr.cell? ⟨gb + 1, 2, none⟩ = some (.int .u64 (a2 : Int)) := HA.out.cell 2
      have c3 : wr.cell? ⟨gb + 1, 3, none⟩ = some (.int .u64 (a3 : Int)) := HA.out.cell 3
      have hq : ((k : Int)).tdiv 64 = ((k / 64 : Nat) : Int) := by rw [Int.tdiv_eq_ediv_of_nonneg (by omega)]; omega
      have hr : ((k : Int)).tmod 64 = ((k % 64 : Nat) : Int) := by rw [Int.tmod_eq_emod_of_nonneg (by omega)]; omega
      have hbit : bits .and .u64 ((x : Int) / 2 ^ (k % 64)) 1 = ((val ws / 2 ^ k % 2 : Nat) : Int) := by
        have e : ((x : Int) / 2 ^ (k % 64)) = ((x / 2 ^ (k % 64) : Nat) : Int) := by simp
        rw [e, and_one _ (Nat.lt_of_le_of_lt (Nat.div_le_self _ _) hxw), val_bit Hw.out k hk64, ← Hxe.out]
      obtain ⟨bit, hb⟩ : ∃ bit, bit = val ws / 2 ^ k % 2 := ⟨_, rfl⟩
      have hb1 : bit ≤ 1 := by omega
      rw [← hb] at hbit
      have Hb := Lib.hid hb
      have Hbit := Lib.hid hbit
      clear hb hbit hq hr
      go_wp2_with fail
      rw [Hbit.out]
      go_loopw [5, 28] (fun vc vj wz => ∃ (j cy : Nat) (r : List Nat), j ≤ 4 ∧ vj = .int .i64 j ∧ vc = .int .u64 (cy : Int) ∧ cy ≤ 1 ∧ r.length = 4 ∧ Words r ∧ r.drop j = [a0, a1, a2, a3].drop j ∧ val (r.take j) + cy * 18446744073709551616 ^ j = 2 * val ([a0, a1, a2, a3].take j) + bit ∧
        Blk wz gb 39 (cellsN [0, 0, 0, 0]).toArray ∧ Blk wz (gb + 1) 39 (cellsN r).toArray ∧ Touch [] w wz) (fun _ vj _ => 4 - (intOf vj).toNat)
      case atStart => exact ⟨0, bit, [a0, a1, a2, a3], by omega, rfl, rfl, hb1, rfl, Wa.out, rfl, by simp [val], HB.out, HA.out, HT.out⟩
      case round =>
        clear c0 c1 c2 c3 hcw
        obtain ⟨j, cy, r, hj, rfl, rfl, hcy, hr, wr2, hdr, hvr, hB2, hA2, hT2⟩ := hrel
        have Hr := Lib.hid hr
        have Wr := Lib.hid wr2
        have Hdr := Lib.hid hdr
        have Hvr := Lib.hid hvr
        have HA2 := Lib.hid hA2
        have HB2 := Lib.hid hB2
        have HT2 := Lib.hid hT2
        clear hr wr2 hdr hvr hA2 hB2 hT2
        by_cases hj4 : j < 4
        · obtain ⟨y, hy⟩ : ∃ y, y = [a0, a1, a2, a3].getD j 0 := ⟨_, rfl⟩
          have hidx := index4 a0 a1 a2 a3 j hj4
          rw [← hy] at hidx
          have hyw : y < 18446744073709551616 := by rw [hy]; exact Wa.out.at_ j
          have hfr : wr.frozen? ⟨gb + 1, j, none⟩ = false := HA2.out.frozen j
          have hcz : wr.cell? ⟨gb + 1, j, none⟩ = some (.int .u64 ((r.getD j 0 : Nat) : Int)) := by
            rw [HA2.out.cell, List.getElem?_toArray]; exact cellsN_at (by rw [Hr.out]; exact hj4)
          have Hy := Lib.hid hy
          clear hy
          have Hstep := Lib.hid (shl_step hj4 rfl Hr.out Wa.out Hy.out Hdr.out Hvr.out)
          go_wp2_with fail
          go_roundw
          case rel =>
            have hor := shl_or y cy hcy
            rw [hor]
            have hz1 : 2 * y % 18446744073709551616 + cy < 18446744073709551616 := by omega
            have hset : (cellsN r).toArray.setIfInBounds j (.int .u64 ((2 * y % 18446744073709551616 + cy : Nat) : Int)) = (cellsN (r.set j (2 * y % 18446744073709551616 + cy))).toArray := by rw [← cellsN_set]; simp
            have hA3 := HA2.out.set_ j (.int .u64 ((2 * y % 18446744073709551616 + cy : Nat) : Int))
            rw [hset] at hA3
            refine ⟨j + 1, y / 9223372036854775808, _, by omega, by go_num, by simp, by omega, by rw [List.length_set]; exact Hr.out, Wr.out.set j hz1, Hstep.out.1, Hstep.out.2, HB2.out.far (p := ⟨gb + 1, j, none⟩) (by simp) _, hA3, HT2.out.setCell (p := ⟨gb + 1, j, none⟩) (.inr (by have := Hgb.out; simp only; omega)) _⟩
          case measure => simp [intOf]; omega
        · obtain rfl : j = 4 := by omega
          obtain ⟨hmod, hlt2⟩ := cut_step (n := 64 * ws.length) Hk.out hlt Hv.out Hb.out
          have hvr : val r + cy * 18446744073709551616 ^ 4 = 2 * val [a0, a1, a2, a3] + bit := by
            have h := Hvr.out
            rw [List.take_of_length_le (by rw [Hr.out]; omega), List.take_of_length_le (by simp)] at h
            exact h
          have hcy0 : cy = 0 := by
            have : (18446744073709551616 : Nat) ^ 4 = 115792089237316195423570985008687907853269984665640564039457584007913129639936 := by decide
            have : ell = 7237005577332262213973186563042994240857116359379907606001950938285454250989 := rfl
            rcases (show cy = 0 ∨ cy = 1 by omega) with h | h
            · exact h
            · subst h; omega
          subst hcy0
          rw [Nat.zero_mul, Nat.add_zero] at hvr
          rw [← hvr] at hmod hlt2
          have Hmod := Lib.hid hmod
          have Hlt2 := Lib.hid hlt2
          have hr := Hr.out
          obtain ⟨r0, r1, r2, r3, rfl⟩ : ∃ r0 r1 r2 r3, r = [r0, r1, r2, r3] := by
            match r, hr with
            | [r0, r1, r2, r3], _ => exact ⟨r0, r1, r2, r3, rfl⟩
          have c0 : wr.cell? ⟨gb + 1, 0, none⟩ = some (.int .u64 (r0 : Int)) := HA2.out.cell 0
          have c1 : wr.cell? ⟨gb + 1, 1, none⟩ = some (.int .u64 (r1 : Int)) := HA2.out.cell 1
          have c2 : wr.cell? ⟨gb + 1, 2, none⟩ = some (.int .u64 (r2 : Int)) := HA2.out.cell 2
          have c3 : wr.cell? ⟨gb + 1, 3, none⟩ = some (.int .u64 (r3 : Int)) := HA2.out.cell 3
          have hordr := (Hord.out.touch HT2.out).2
          have o0 : wr.cell? ⟨0, 0, none⟩ = some (.int .u64 6346243789798364141) := hordr 0 (by omega)
          have o1 : wr.cell? ⟨0, 1, none⟩ = some (.int .u64 1503914060200516822) := hordr 1 (by omega)
          have o2 : wr.cell? ⟨0, 2, none⟩ = some (.int .u64 0) := hordr 2 (by omega)
          have o3 : wr.cell? ⟨0, 3, none⟩ = some (.int .u64 1152921504606846976) := hordr 3 (by omega)
          clear hmod hlt2 hvr hr hordr
          go_wp2_with fail
          refine (sc_sub_any [r0, r1, r2, r3] ordW rfl rfl Wr.out (by intro x hx; simp [ordW] at hx; omega) wr).mono ?_
          rintro e w4 ⟨s, u, hs, ws', hu, hvs, rfl, ht4⟩
          clear c0 c1 c2 c3 o0 o1 o2 o3
          have HA4 := Lib.hid (HA2.out.touch ht4 (by simp))
          have HB4 := Lib.hid (HB2.out.touch ht4 (by simp))
          have HT4 := Lib.hid (HT2.out.trans ht4)
          have Hvs := Lib.hid hvs
          have Ws := Lib.hid ws'
          clear hvs ws' ht4
          unfold numV
          obtain ⟨s0, s1, s2, s3, rfl⟩ : ∃ s0 s1 s2 s3, s = [s0, s1, s2, s3] := by
            match s, hs with
            | [s0, s1, s2, s3], _ => exact ⟨s0, s1, s2, s3, rfl⟩
          have f0 : ∀ o j, (w4.alloc o).frozen? ⟨gb + 1, j, none⟩ = false := fun o j => (HA4.out.alloc o).frozen j
          have d0 : ∀ o, (w4.alloc o).cell? ⟨gb + 1, 0, none⟩ = some (.int .u64 (r0 : Int)) := fun o => (HA4.out.alloc o).cell 0
          have d1 : ∀ o, (w4.alloc o).cell? ⟨gb + 1, 1, none⟩ = some (.int .u64 (r1 : Int)) := fun o => (HA4.out.alloc o).cell 1
          have d2 : ∀ o, (w4.alloc o).cell? ⟨gb + 1, 2, none⟩ = some (.int .u64 (r2 : Int)) := fun o => (HA4.out.alloc o).cell 2
          have d3 : ∀ o, (w4.alloc o).cell? ⟨gb + 1, 3, none⟩ = some (.int .u64 (r3 : Int)) := fun o => (HA4.out.alloc o).cell 3
          have hcs : (cellsN [s0, s1, s2, s3]).toArray = #[.int .u64 (s0 : Int), .int .u64 (s1 : Int), .int .u64 (s2 : Int), .int .u64 (s3 : Int)] := rfl
          rw [hcs]
          clear hcs hs
          rcases (show u = 0 ∨ u = 1 by omega) with h | h
          · subst h
            go_wp2_with fail
            go_roundw
            case rel =>
              have hval := cut_less Hvs.out Hmod.out Hlt2.out
              have hA5 := ((((HA4.out.alloc (.cells #[.int .u64 (s0 : Int), .int .u64 (s1 : Int), .int .u64 (s2 : Int), .int .u64 (s3 : Int)] 39)).set_ 0 (.int .u64 (s0 : Int))).set_ 1 (.int .u64 (s1 : Int))).set_ 2 (.int .u64 (s2 : Int))).set_ 3 (.int .u64 (s3 : Int))
              have hne : gb ≠ gb + 1 := by omega
              have hB5 := ((((HB4.out.alloc (.cells #[.int .u64 (s0 : Int), .int .u64 (s1 : Int), .int .u64 (s2 : Int), .int .u64 (s3 : Int)] 39)).far (p := ⟨gb + 1, 0, none⟩) hne (.int .u64 (s0 : Int))).far (p := ⟨gb + 1, 1, none⟩) hne (.int .u64 (s1 : Int))).far (p := ⟨gb + 1, 2, none⟩) hne (.int .u64 (s2 : Int))).far (p := ⟨gb + 1, 3, none⟩) hne (.int .u64 (s3 : Int))
              have hgx : gb + 1 ∈ ([] : List Nat) ∨ w.heap.size ≤ gb + 1 := .inr (by have := Hgb.out; omega)
              refine ⟨d + 1, [s0, s1, s2, s3], by omega, by have := Hkd.out; congr 1; omega, rfl, Ws.out, ?_, hB5, hA5, ((((HT4.out.alloc _).setCell (p := ⟨gb + 1, 0, none⟩) hgx _).setCell (p := ⟨gb + 1, 1, none⟩) hgx _).setCell (p := ⟨gb + 1, 2, none⟩) hgx _).setCell (p := ⟨gb + 1, 3, none⟩) hgx _⟩
              exact hval
            case measure => simp [intOf]
          · subst h
            go_wp2_with fail
            go_roundw
            case rel =>
              have h1 := cut_below Hvs.out (val4_lt Ws.out rfl) Hmod.out
              exact ⟨d + 1, [r0, r1, r2, r3], by omega, by have := Hkd.out; congr 1; omega, rfl, Wr.out, h1, HB4.out.alloc _, HA4.out.alloc _, HT4.out.alloc _⟩
            case measure => simp [intOf]
    · obtain rfl : d = 64 * ws.length := by omega
      have hkd : (64 * (ws.length : Int) - 1 - ((64 * ws.length : Nat) : Int)) = -1 := by omega
      rw [hkd]
      obtain ⟨a0, a1, a2, a3, rfl⟩ : ∃ a0 a1 a2 a3, a = [a0, a1, a2, a3] := by
        have := Ha.out
        match a, this with
        | [a0, a1, a2, a3], _ => exact ⟨a0, a1, a2, a3, rfl⟩
      have c0 : wr.cell? ⟨gb + 1, 0, none⟩ = some (.int .u64 (a0 : Int)) := HA.out.cell 0
      have c1 : wr.cell? ⟨gb + 1, 1, none⟩ = some (.int .u64 (a1 : Int)) := HA.out.cell 1
      have c2 : wr.cell? ⟨gb + 1, 2, none⟩ = some (.int .u64 (a2 : Int)) := HA.out.cell 2
      have c3 : wr.cell? ⟨gb + 1, 3, none⟩ = some (.int .u64 (a3 : Int)) := HA.out.cell 3
      have d0 : wr.cell? ⟨gb, 0, none⟩ = some (.int .u64 0) := HB.out.cell 0
      have d1 : wr.cell? ⟨gb, 1, none⟩ = some (.int .u64 0) := HB.out.cell 1
      have d2 : wr.cell? ⟨gb, 2, none⟩ = some (.int .u64 0) := HB.out.cell 2
      have d3 : wr.cell? ⟨gb, 3, none⟩ = some (.int .u64 0) := HB.out.cell 3
      have f0 : ∀ j, wr.frozen? ⟨gb, j, none⟩ = false := fun j => HB.out.frozen j
      have hfv : val [a0, a1, a2, a3] = val ws % ell := by
        have h := Hv.out
        rw [Nat.sub_self, Nat.pow_zero, Nat.div_one] at h
        exact h
      have Hfv := Lib.hid hfv
      clear hkd hfv
      go_wp2_with fail
      have hC5 := (((HB.out.set_ 0 (.int .u64 (a0 : Int))).set_ 1 (.int .u64 (a1 : Int))).set_ 2 (.int .u64 (a2 : Int))).set_ 3 (.int .u64 (a3 : Int))
      have hg : gb ∈ ([] : List Nat) ∨ w.heap.size ≤ gb := .inr (by have := Hgb.out; omega)
      have ht5 : Touch [] w _ := (((HT.out.setCell (p := ⟨gb, 0, none⟩) hg (.int .u64 (a0 : Int))).setCell (p := ⟨gb, 1, none⟩) hg (.int .u64 (a1 : Int))).setCell (p := ⟨gb, 2, none⟩) hg (.int .u64 (a2 : Int))).setCell (p := ⟨gb, 3, none⟩) hg (.int .u64 (a3 : Int))
      obtain ⟨w5, hw5⟩ : ∃ w5, w5 = (((wr.setCell ⟨gb, 0, none⟩ (.int .u64 (a0 : Int))).setCell ⟨gb, 1, none⟩ (.int .u64 (a1 : Int))).setCell ⟨gb, 2, none⟩ (.int .u64 (a2 : Int))).setCell ⟨gb, 3, none⟩ (.int .u64 (a3 : Int)) := ⟨_, rfl⟩
      rw [← hw5] at hC5 ht5 ⊢
      have e0 : w5.cell? ⟨gb, 0, none⟩ = some (.int .u64 (a0 : Int)) := hC5.cell 0
      have e1 : w5.cell? ⟨gb, 1, none⟩ = some (.int .u64 (a1 : Int)) := hC5.cell 1
      have e2 : w5.cell? ⟨gb, 2, none⟩ = some (.int .u64 (a2 : Int)) := hC5.cell 2
      have e3 : w5.cell? ⟨gb, 3, none⟩ = some (.int .u64 (a3 : Int)) := hC5.cell 3
      have hfin : CutPost ws w (.returned (.agg #[.int .u64 (a0 : Int), .int .u64 (a1 : Int), .int .u64 (a2 : Int), .int .u64 (a3 : Int)])) w5 := ⟨[a0, a1, a2, a3], rfl, Wa.out, Hfv.out, rfl, ht5⟩
      clear hC5 hw5 c0 c1 c2 c3 d0 d1 d2 d3 f0
      simp [bodyPost, results, Tryd.results13, go_sem, e0, e1, e2, e3]
      exact hfin
/-! Text -/
def cellsU (l : List Nat) : List Value := l.map fun (n : Nat) => .int .u8 (n : Int)
theorem cellsU_at {l : List Nat} {j : Nat} (h : j < l.length) : (cellsU l)[j]? = some (.int .u8 ((l.getD j 0 : Nat) : Int)) := by simp [cellsU, List.getD, h]
theorem cellsU_set (l : List Nat) (j x : Nat) : (cellsU l).set j (.int .u8 (x : Int)) = cellsU (l.set j x) := by simp [cellsU]
theorem text_step {N i : Nat} {cs : List Nat} (hi : i < 32) (hl : cs.length = 32) (hc : ∀ j, j < i → cs.getD j 0 = N / 2 ^ (8 * j) % 256) :
    ∀ j, j < i + 1 → (cs.set i (N / 2 ^ (8 * i) % 256)).getD j 0 = N / 2 ^ (8 * j) % 256 := by
  intro j hj
  by_cases hji : j = i
  · subst hji; simp [List.getD, hl, hi]
  · have := hc j (by omega)
    simpa [List.getD, List.getElem?_set_ne (Ne.symm hji)] using this
set_option maxRecDepth 100000 in
set_option maxHeartbeats 1000000 in
theorem sc_text_any (a : List Nat) (ha : a.length = 4) (wa : Words a) (w : World) :
    Calls Tryd.prog 15 #[numV a] w fun e w' => e = .returned (.string (toS (val a))) ∧ Touch [] w w' := by
  have Ha := Lib.hid ha
  have Wa := Lib.hid wa
  clear ha wa
  unfold numV
  go_enter Tryd.func15, Tryd.ntmps15
  go_wp2_with fail
  have hz0 : (cellsU (List.replicate 32 0)).toArray = #[.int .u8 0, .int .u8 0, .int .u8 0, .int .u8 0, .int .u8 0, .int .u8 0, .int .u8 0, .int .u8 0, .int .u8 0, .int .u8 0, .int .u8 0, .int .u8 0, .int .u8 0, .int .u8 0, .int .u8 0, .int .u8 0, .int .u8 0, .int .u8 0, .int .u8 0, .int .u8 0, .int .u8 0, .int .u8 0, .int .u8 0, .int .u8 0, .int .u8 0, .int .u8 0, .int .u8 0, .int .u8 0, .int .u8 0, .int .u8 0, .int .u8 0, .int .u8 0] := rfl
  rw [← hz0]
  obtain ⟨w1, hw1⟩ : ∃ w1, w1 = (w.alloc (.cells (cellsN a).toArray 39)).alloc (.cells (cellsU (List.replicate 32 0)).toArray 63) := ⟨_, rfl⟩
  have hA : Blk w1 w.heap.size 39 (cellsN a).toArray := by rw [hw1]; exact (Blk.new _ _ _).alloc _
  have hB : Blk w1 (w.heap.size + 1) 63 (cellsU (List.replicate 32 0)).toArray := by
    have := Blk.new (w.alloc (.cells (cellsN a).toArray 39)) 63 (cellsU (List.replicate 32 0)).toArray
    rw [hw1]; simpa using this
  have hT : Touch [] w w1 := by rw [hw1]; exact ((Touch.refl _ _).alloc _).alloc _
  rw [← hw1]
  obtain ⟨ga, hga⟩ : ∃ ga, ga = w.heap.size := ⟨_, rfl⟩
  have Hga := Lib.hid hga
  rw [← hga] at hA hB
  rw [← hga]
  clear hw1 hz0 hga
  go_loopw [5] (fun vi wr => ∃ (i : Nat) (cs : List Nat), i ≤ 32 ∧ vi = .int .i64 i ∧ cs.length = 32 ∧ (∀ j, j < i → cs.getD j 0 = val a / 2 ^ (8 * j) % 256) ∧
    Blk wr ga 39 (cellsN a).toArray ∧ Blk wr (ga + 1) 63 (cellsU cs).toArray ∧ Touch [] w wr) (fun vi _ => 32 - (intOf vi).toNat)
  case atStart => exact ⟨0, List.replicate 32 0, by omega, rfl, by simp, fun _ h => by omega, hA, hB, hT⟩
  case round =>
    obtain ⟨i, cs, hi, rfl, hl, hc, hA', hB', hT'⟩ := hrel
    clear hA hB hT
    have Hl := Lib.hid hl
    have Hc := Lib.hid hc
    have HA := Lib.hid hA'
    have HB := Lib.hid hB'
    have HT := Lib.hid hT'
    clear hl hc hA' hB' hT'
    by_cases hlt : i < 32
    · have hca : wr.cell? ⟨ga, i / 8, none⟩ = some (.int .u64 ((a.getD (i / 8) 0 : Nat) : Int)) := by
        rw [HA.out.cell, List.getElem?_toArray]; exact cellsN_at (by rw [Ha.out]; omega)
      have hcb : wr.cell? ⟨ga + 1, i, none⟩ = some (.int .u8 ((cs.getD i 0 : Nat) : Int)) := by
        rw [HB.out.cell, List.getElem?_toArray]; exact cellsU_at (by rw [Hl.out]; omega)
      have hfr : wr.frozen? ⟨ga + 1, i, none⟩ = false := HB.out.frozen i
      have hq : (i : Int).tdiv 8 = ((i / 8 : Nat) : Int) := by rw [Int.tdiv_eq_ediv_of_nonneg (by omega)]; omega
      have hr : (i : Int).tmod 8 = ((i % 8 : Nat) : Int) := by rw [Int.tmod_eq_emod_of_nonneg (by omega)]; omega
      have hi4 : i / 8 < 4 := by omega
      have hyw := Wa.out.at_ (i / 8)
      have hwd := word_at Wa.out (i / 8) (by rw [Ha.out]; exact hi4)
      have hby := byte_at (val a) i
      rw [← hwd] at hby
      obtain ⟨y, hy⟩ : ∃ y, y = a.getD (i / 8) 0 := ⟨_, rfl⟩
      rw [← hy] at hca hyw hby
      have Hby := Lib.hid hby
      clear hwd hy hby
      go_wp2_with fail
      go_roundw
      case rel =>
        have hz : ((y : Int) / 2 ^ (8 * (i % 8)) % 256) = ((val a / 2 ^ (8 * i) % 256 : Nat) : Int) := by rw [← Hby.out]; simp
        rw [hz]
        have hset : (cellsU cs).toArray.setIfInBounds i (.int .u8 ((val a / 2 ^ (8 * i) % 256 : Nat) : Int)) = (cellsU (cs.set i (val a / 2 ^ (8 * i) % 256))).toArray := by rw [← cellsU_set]; simp
        have hB2 := HB.out.set_ i (.int .u8 ((val a / 2 ^ (8 * i) % 256 : Nat) : Int))
        rw [hset] at hB2
        exact ⟨i + 1, cs.set i (val a / 2 ^ (8 * i) % 256), by omega, by go_num, by rw [List.length_set]; exact Hl.out, text_step hlt Hl.out Hc.out, HA.out.far (p := ⟨ga + 1, i, none⟩) (by simp) _, hB2, HT.out.setCell (p := ⟨ga + 1, i, none⟩) (.inr (by have := Hga.out; simp only; omega)) _⟩
      case measure => simp [intOf]; omega
    · obtain rfl : i = 32 := by omega
      have hconv := run_convert_bytes_arg (P := Tryd.prog) wr 62 5 Tryd.underlying62 Tryd.underlying5 (ga + 1) 0 32 32 (cs.map fun (n : Nat) => (n : Int)) (by rw [List.length_map]; exact Hl.out) (fun i hi => by
        rw [HB.out.cell, Nat.zero_add, List.getElem?_toArray, cellsU_at (by rw [Hl.out]; exact hi)]
        simp [List.getD]
        cases cs[i]? <;> rfl) 9 Tryd.underlying9
      have hfin : strOfNums (cs.map fun (n : Nat) => (n : Int)) = toS (val a) := by
        unfold toS
        congr 1
        apply List.ext_getElem?
        intro i
        by_cases hi : i < 32
        · have := Hc.out i hi
          rw [List.getElem?_map, List.getElem?_map, List.getElem?_range hi]
          have hci : i < cs.length := by rw [Hl.out]; exact hi
          rw [List.getElem?_eq_getElem hci]
          simp [List.getD, hci] at this
          simp [this]
        · rw [List.getElem?_eq_none (by rw [List.length_map, Hl.out]; omega), List.getElem?_eq_none (by simp; omega)]
      have Hfin := Lib.hid hfin
      clear hfin
      go_wp2_with fail
      go_ret
      exact ⟨ret_eq (by rw [Hfin.out]; rfl), HT.out⟩
/-! Load -/
theorem make_words (n : Nat) (hn : n = 4 ∨ n = 8 ∨ n = 9) (w : World) : (Instr.makeSlice 41 (.int .i64 (n : Int)) (.int .i64 (n : Int))).run Tryd.prog w =
    .ok (.slice (some ⟨w.heap.size, 0, none⟩) n n) (w.alloc (.cells (cellsN (List.replicate n 0)).toArray 37)) := by
  rcases hn with rfl | rfl | rfl <;> kernel_rfl
theorem val_zeros (n : Nat) : val (List.replicate n 0) = 0 := by
  induction n with
  | zero => rfl
  | succ n ih => rw [List.replicate_succ, val, ih]
theorem words_zeros (n : Nat) : Words (List.replicate n 0) := fun x hx => by rw [(List.mem_replicate.1 hx).2]; omega
/-- One byte more, in its word. -/
theorem load_step {ws bs : List Nat} {i c : Nat} (hi : i < bs.length) (hw : Words ws) (hb : ∀ b ∈ bs, b < 256) (hl : i / 8 < ws.length) (hv : val ws = leN (bs.take i)) (hc : c = bs.getD i 0) :
    ws.getD (i / 8) 0 < 2 ^ (8 * (i % 8)) ∧ ws.getD (i / 8) 0 + c * 2 ^ (8 * (i % 8)) < 18446744073709551616 ∧
    val (ws.set (i / 8) (ws.getD (i / 8) 0 + c * 2 ^ (8 * (i % 8)))) = leN (bs.take (i + 1)) := by
  have hcb : c < 256 := by
    rw [hc, List.getD, List.getElem?_eq_getElem hi]; exact hb _ (List.getElem_mem hi)
  have hlt : leN (bs.take i) < 256 ^ i := by
    have := leN_lt (l := bs.take i) (fun b h => hb b (List.mem_of_mem_take h))
    rwa [List.length_take, Nat.min_eq_left (by omega)] at this
  have e0 : (256 : Nat) ^ i = 2 ^ (64 * (i / 8)) * 2 ^ (8 * (i % 8)) := by
    rw [show (256 : Nat) = 2 ^ 8 by decide, ← Nat.pow_mul, ← Nat.pow_add]; congr 1; omega
  have h1 : ws.getD (i / 8) 0 < 2 ^ (8 * (i % 8)) := by
    rw [word_at hw _ hl]
    refine Nat.lt_of_le_of_lt (Nat.mod_le _ _) ?_
    rw [Nat.div_lt_iff_lt_mul (Nat.two_pow_pos _), Nat.mul_comm, ← e0, hv]
    exact hlt
  refine ⟨h1, ?_, ?_⟩
  · have e : (18446744073709551616 : Nat) = 2 ^ (8 * (i % 8)) * (256 * 2 ^ (56 - 8 * (i % 8))) := by
      rw [show (256 : Nat) = 2 ^ 8 by decide, ← Nat.pow_add, ← Nat.pow_add, show 8 * (i % 8) + (8 + (56 - 8 * (i % 8))) = 64 by omega]
    have h2 : 1 ≤ 2 ^ (56 - 8 * (i % 8)) := Nat.one_le_two_pow
    have h3 : (c + 1) * 2 ^ (8 * (i % 8)) ≤ 256 * 2 ^ (8 * (i % 8)) := Nat.mul_le_mul_right _ (by omega)
    have h4 : 256 * 2 ^ (8 * (i % 8)) * 1 ≤ 256 * 2 ^ (8 * (i % 8)) * 2 ^ (56 - 8 * (i % 8)) := Nat.mul_le_mul_left _ h2
    rw [Nat.add_mul, Nat.one_mul] at h3
    have e2 : 2 ^ (8 * (i % 8)) * (256 * 2 ^ (56 - 8 * (i % 8))) = 256 * 2 ^ (8 * (i % 8)) * 2 ^ (56 - 8 * (i % 8)) := by rw [← Nat.mul_assoc, Nat.mul_comm (2 ^ (8 * (i % 8))) 256]
    rw [e, e2]
    omega
  · have h2 := val_set hl (ws.getD (i / 8) 0 + c * 2 ^ (8 * (i % 8)))
    rw [leN_take_succ hi, ← hc, e0, ← hv]
    have e1 : (18446744073709551616 : Nat) ^ (i / 8) = 2 ^ (64 * (i / 8)) := by rw [show (18446744073709551616 : Nat) = 2 ^ 64 by decide, ← Nat.pow_mul]
    rw [e1] at h2
    grind
theorem shl_or8 (y c k : Nat) (hy : y < 2 ^ k) (hs : y + c * 2 ^ k < 18446744073709551616) : bits .or .u64 (y : Int) ((c * 2 ^ k : Nat) : Int) = ((y + c * 2 ^ k : Nat) : Int) := by
  have hyw : y < 18446744073709551616 := by omega
  rw [bits_or_u64_nat _ _ hyw (by omega)]
  have h := Nat.shiftLeft_add_eq_or_of_lt (i := k) (b := y) hy c
  rw [Nat.shiftLeft_eq] at h
  rw [Nat.or_comm, ← h, Nat.add_comm]
theorem bytes_cells (w : World) (e : TypeId) (t : ByteArray) (c j : Nat) (hj : j < t.size) :
    (w.drew.alloc (.cells (bytesRow t c) e ((bytesRow t c).size, (bytesRow t c).size + 1))).cell? ⟨w.heap.size, j, none⟩ = some (.int .u8 (((bl t).getD j 0 : Nat) : Int)) := by
  have hj' : j < t.data.size := hj
  refine (World.cell?_alloc_mark w.drew (bytesRow t c) e ((bytesRow t c).size, (bytesRow t c).size + 1) j).trans ?_
  rw [bytesRow_at t c j hj']
  have hj2 : j < t.data.toList.length := by simpa using hj'
  simp only [bl, List.getD, List.getElem?_map, List.getElem?_eq_getElem hj2]
  simp
theorem bl_extract (s : ByteArray) (m : Nat) : bl (s.extract 0 m) = (bl s).take m := by
  unfold bl
  simp [ByteArray.data_extract, List.map_take]
theorem wrap_u64 (x : Nat) (h : x < 18446744073709551616) : IntKind.u64.wrap (x : Int) = x := by simp [IntKind.wrap, IntKind.signed, IntKind.bits]; omega
def LoadPost (s : ByteArray) (n : Nat) (w : World) (e : Ending) (w' : World) : Prop :=
  ∃ (v : Value) (ws : List Nat) (row : Option Nat), e = .returned v ∧ ws.length = n ∧ Words ws ∧ val ws = leN ((bl s).take (8 * n)) ∧ Own w' 37 1 v ws.length (cellsN ws) row ∧ Touch [] w w' ∧ NewRow w none row
set_option maxRecDepth 100000 in
set_option maxHeartbeats 1000000 in
theorem load_any (s : ByteArray) (n : Nat) (hn : n = 4 ∨ n = 8) (w : World) :
    Calls Tryd.prog 14 #[.string s, .int .i64 (n : Int)] w (LoadPost s n w) := by
  have hmk := make_words n (by omega)
  have hn8 : n ≤ 8 := by omega
  have hn0 : 0 < n := by omega
  clear hn
  go_enter Tryd.func14, Tryd.ntmps14
  go_upto_region 2 with fail
  obtain ⟨gb, hgb⟩ : ∃ gb, gb = w.heap.size := ⟨_, rfl⟩
  obtain ⟨w1, hw1⟩ : ∃ w1, w1 = w.alloc (.cells (cellsN (List.replicate n 0)).toArray 37) := ⟨_, rfl⟩
  have hB : Blk w1 gb 37 (cellsN (List.replicate n 0)).toArray := by rw [hw1, hgb]; exact Blk.new _ _ _
  have hT : Touch [] w w1 := by rw [hw1]; exact (Touch.refl _ _).alloc _
  have Hgb := Lib.hid hgb
  rw [← hw1, ← hgb]
  clear hw1 hmk hgb
  go_cut [17, 18, 19] (fun v17 v18 v19 wx => ∃ (t : ByteArray) (cap gt : Nat), bl t = (bl s).take (8 * n) ∧ t.size ≤ 64 ∧ v17 = .slice (some ⟨gt, 0, none⟩) t.size cap ∧ v18 = .int .i64 (t.size : Int) ∧ v19 = .int .i64 0 ∧ gb ≠ gt ∧ t.size ≤ cap ∧
    (∀ j, j < t.size → wx.cell? ⟨gt, j, none⟩ = some (.int .u8 (((bl t).getD j 0 : Nat) : Int))) ∧ gt < wx.heap.size ∧ Touch [] w1 wx)
  case first =>
    have hne : gb ≠ w1.heap.size := by have := hB.lt; omega
    by_cases hs : s.size ≤ 8 * n
    · have hcv := run_bytes_of_string (P := Tryd.prog) w1 9 62 5 s Tryd.underlying9 Tryd.underlying62 Tryd.underlying5
      have hcap := grownCap_ge w1 s.size 0 5
      have hcell := bytes_cells w1 5 s (grownCap w1 s.size 0 5)
      obtain ⟨cap, hc⟩ : ∃ cap, cap = grownCap w1 s.size 0 5 := ⟨_, rfl⟩
      rw [← hc] at hcv hcap hcell
      obtain ⟨W1, hW1⟩ : ∃ W1, W1 = w1.drew.alloc (.cells (bytesRow s cap) 5 ((bytesRow s cap).size, (bytesRow s cap).size + 1)) := ⟨_, rfl⟩
      rw [← hW1] at hcv hcell
      have Hfin : Hid (bl s = (bl s).take (8 * n) ∧ (∀ j, j < s.size → W1.cell? ⟨w1.heap.size, j, none⟩ = some (.int .u8 (((bl s).getD j 0 : Nat) : Int))) ∧ w1.heap.size < W1.heap.size ∧ Touch [] w1 W1) :=
        Lib.hid ⟨by rw [List.take_of_length_le (by rw [bl_len]; omega)], hcell, by rw [hW1]; simp, by rw [hW1]; exact (Touch.refl _ _).drew.alloc _⟩
      clear hc hW1 hcell
      go_wp2_with fail
      go_meet
      exact ⟨s, cap, w1.heap.size, Hfin.out.1, by omega, rfl, rfl, rfl, hne, hcap, Hfin.out.2.1, Hfin.out.2.2.1, Hfin.out.2.2.2⟩
    · obtain ⟨t, ht⟩ : ∃ t, t = s.extract 0 (8 * n) := ⟨_, rfl⟩
      have hts : t.size = 8 * n := by rw [ht]; simp; omega
      have hbt : bl t = (bl s).take (8 * n) := by rw [ht, bl_extract]
      have hcv := run_bytes_of_string (P := Tryd.prog) w1 9 62 5 t Tryd.underlying9 Tryd.underlying62 Tryd.underlying5
      have hcap := grownCap_ge w1 t.size 0 5
      have hcell := bytes_cells w1 5 t (grownCap w1 t.size 0 5)
      obtain ⟨cap, hc⟩ : ∃ cap, cap = grownCap w1 t.size 0 5 := ⟨_, rfl⟩
      rw [← hc] at hcv hcap hcell
      obtain ⟨W1, hW1⟩ : ∃ W1, W1 = w1.drew.alloc (.cells (bytesRow t cap) 5 ((bytesRow t cap).size, (bytesRow t cap).size + 1)) := ⟨_, rfl⟩
      rw [← hW1] at hcv hcell
      have Hfin : Hid (bl t = (bl s).take (8 * n) ∧ t.size ≤ 64 ∧ t.size ≤ cap ∧ (∀ j, j < t.size → W1.cell? ⟨w1.heap.size, j, none⟩ = some (.int .u8 (((bl t).getD j 0 : Nat) : Int))) ∧ w1.heap.size < W1.heap.size ∧ Touch [] w1 W1) :=
        Lib.hid ⟨hbt, by omega, hcap, hcell, by rw [hW1]; simp, by rw [hW1]; exact (Touch.refl _ _).drew.alloc _⟩
      have Hts := Lib.hid hts
      rw [ht] at hcv
      have Ht := Lib.hid ht
      have hmin1 : ¬ ((s.size : Int) ≤ 8 * (n : Int)) := by omega
      clear hc hW1 hcell hts hbt hcap ht
      go_wp2_with fail
      go_meet
      have e : min (8 * n) s.size = t.size := by rw [Hts.out]; omega
      rw [e]
      exact ⟨t, cap, w1.heap.size, Hfin.out.1, Hfin.out.2.1, rfl, rfl, rfl, hne, Hfin.out.2.2.1, Hfin.out.2.2.2.1, Hfin.out.2.2.2.2.1, Hfin.out.2.2.2.2.2⟩
  case rest =>
    obtain ⟨t, cap, gt, hbt, htz, rfl, rfl, rfl, hne, hcap, hcell, hgt, ht⟩ := hcut
    have hB2 := hB.touch ht (by simp)
    have hT2 := hT.trans ht
    have Hbt := Lib.hid hbt
    have Hcell := Lib.hid hcell
    clear hB hT ht hbt hcell
    go_wp2_with fail
    go_loopw [19] (fun vi wr => ∃ (i : Nat) (ws : List Nat), i ≤ t.size ∧ vi = .int .i64 i ∧ ws.length = n ∧ Words ws ∧ val ws = leN ((bl t).take i) ∧ Blk wr gb 37 (cellsN ws).toArray ∧
      (∀ j, j < t.size → wr.cell? ⟨gt, j, none⟩ = some (.int .u8 (((bl t).getD j 0 : Nat) : Int))) ∧ Touch [] w wr) (fun vi _ => t.size - (intOf vi).toNat)
    case atStart => exact ⟨0, List.replicate n 0, by omega, rfl, by simp, words_zeros n, by rw [val_zeros]; simp [leN], hB2, Hcell.out, hT2⟩
    case round =>
      obtain ⟨i, ws, hi, rfl, hl, hw, hv, hB', hc', hT'⟩ := hrel
      clear hB2 hT2
      have Hl := Lib.hid hl
      have Hw := Lib.hid hw
      have Hv := Lib.hid hv
      have HB := Lib.hid hB'
      have HC := Lib.hid hc'
      have HT := Lib.hid hT'
      clear hl hw hv hB' hc' hT'
      have hbn : t.size ≤ 8 * n := by
        have := congrArg List.length Hbt.out
        rw [bl_len, List.length_take] at this
        omega
      by_cases hlt : i < t.size
      · have hi8 : i / 8 < n := by omega
        have hcw : wr.cell? ⟨gb, i / 8, none⟩ = some (.int .u64 ((ws.getD (i / 8) 0 : Nat) : Int)) := by
          rw [HB.out.cell, List.getElem?_toArray]; exact cellsN_at (by rw [Hl.out]; exact hi8)
        have hcb : wr.cell? ⟨gt, i, none⟩ = some (.int .u8 (((bl t).getD i 0 : Nat) : Int)) := HC.out i hlt
        have hfr : wr.frozen? ⟨gb, i / 8, none⟩ = false := HB.out.frozen _
        have hcb256 : (bl t).getD i 0 < 256 := by
          have hil : i < (bl t).length := by rw [bl_len]; exact hlt
          rw [List.getD, List.getElem?_eq_getElem hil]; exact bl_lt t _ (List.getElem_mem hil)
        obtain ⟨h1, h2, h3⟩ := load_step (c := (bl t).getD i 0) (by rw [bl_len]; exact hlt) Hw.out (bl_lt t) (by rw [Hl.out]; exact hi8) Hv.out rfl
        have hor := shl_or8 _ _ _ h1 h2
        obtain ⟨y, hy⟩ : ∃ y, y = ws.getD (i / 8) 0 := ⟨_, rfl⟩
        obtain ⟨b, hb⟩ : ∃ b, b = (bl t).getD i 0 := ⟨_, rfl⟩
        rw [← hy] at hcw h1 h2 h3 hor
        rw [← hb] at hcb h2 h3 hor hcb256
        have hq : (i : Int).tdiv 8 = ((i / 8 : Nat) : Int) := by rw [Int.tdiv_eq_ediv_of_nonneg (by omega)]; omega
        have hr : (i : Int).tmod 8 = ((i % 8 : Nat) : Int) := by rw [Int.tmod_eq_emod_of_nonneg (by omega)]; omega
        have hb64 : b * 2 ^ (8 * (i % 8)) < 18446744073709551616 := by omega
        have Hor := Lib.hid hor
        have H2 := Lib.hid h2
        have H3 := Lib.hid h3
        have H64 := Lib.hid hb64
        clear hy hb h1 h2 h3 hor hb64
        go_wp2_with fail
        go_region
        go_wp2_with fail
        go_roundw
        case rel =>
          have hz : bits .or .u64 (y : Int) (IntKind.u64.wrap ((b : Int) * 2 ^ (8 * (i % 8)))) = ((y + b * 2 ^ (8 * (i % 8)) : Nat) : Int) := by
            have e : ((b : Int) * 2 ^ (8 * (i % 8))) = ((b * 2 ^ (8 * (i % 8)) : Nat) : Int) := by simp
            rw [e, wrap_u64 _ H64.out, Hor.out]
          rw [hz]
          have hset : (cellsN ws).toArray.setIfInBounds (i / 8) (.int .u64 ((y + b * 2 ^ (8 * (i % 8)) : Nat) : Int)) = (cellsN (ws.set (i / 8) (y + b * 2 ^ (8 * (i % 8))))).toArray := by rw [← cellsN_set]; simp
          have hB3 := HB.out.set_ (i / 8) (.int .u64 ((y + b * 2 ^ (8 * (i % 8)) : Nat) : Int))
          rw [hset] at hB3
          have hC3 : ∀ j, j < t.size → (wr.setCell ⟨gb, i / 8, none⟩ (.int .u64 ((y + b * 2 ^ (8 * (i % 8)) : Nat) : Int))).cell? ⟨gt, j, none⟩ = some (.int .u8 (((bl t).getD j 0 : Nat) : Int)) := fun j hj =>
            (World.cell?_of_block (Below.heap_setCell wr ⟨gb, i / 8, none⟩ _ gt (Ne.symm hne))).trans (HC.out j hj)
          exact ⟨i + 1, ws.set (i / 8) (y + b * 2 ^ (8 * (i % 8))), by omega, by go_num, by rw [List.length_set]; exact Hl.out, Hw.out.set _ H2.out, H3.out, hB3.drew, hC3, (HT.out.setCell (p := ⟨gb, i / 8, none⟩) (.inr (by rw [Hgb.out]; exact Nat.le_refl _)) _).drew⟩
        case measure => simp [intOf]; omega
      · obtain rfl : i = t.size := by omega
        go_wp2_with fail
        go_ret
        have hvv : val ws = leN ((bl s).take (8 * n)) := by
          have h := Hv.out
          rw [List.take_of_length_le (by rw [bl_len]; exact Nat.le_refl _), Hbt.out] at h
          exact h
        refine ⟨.slice (some ⟨gb, 0, none⟩) n n, ws, some gb, rfl, Hl.out, Hw.out, hvv, ⟨by rw [cellsN_len, Nat.mul_one], .inr ⟨gb, 0, n, _, by rw [Hl.out], rfl, HB.out, hn0, by rw [Hl.out]; exact Nat.le_refl _, by unfold maxLen; omega, by simp [cellsN_len, Hl.out], fun j u hj => by rw [Nat.zero_add, List.getElem?_toArray]; exact hj⟩⟩, HT.out, .fresh _ _ (by rw [Hgb.out]; exact Nat.le_refl _)⟩
/-! Mul64 -/
/-! MulAdd -/
/-! Scalar -/
/-- The number of up to 64 bytes. -/
def numS (s : ByteArray) : Nat := leN ((bl s).take 64)
def lowS (s : ByteArray) : Nat := leN ((bl s).take 32)
set_option maxRecDepth 100000 in
theorem cutS_any (s : ByteArray) (w : World) (hord : Ord w) :
    Calls Tryd.prog 4 #[.string s] w fun e w' => e = .returned (.string (toS (numS s % ell))) ∧ Touch [] w w' := by
  have Hord := Lib.hid hord
  clear hord
  go_enter Tryd.func4, Tryd.ntmps4
  go_wp2_with fail
  refine (load_any s 8 (by omega) w).mono ?_
  rintro e w1 ⟨v1, xs, row1, rfl, hxl, hxw, hxv, hxo, ht1, hn1⟩
  have Hxl := Lib.hid hxl
  have Hxw := Lib.hid hxw
  have Hxv := Lib.hid hxv
  have Hxo := Lib.hid hxo
  have Ht1 := Lib.hid ht1
  clear hxl hxw hxv hxo ht1 hn1
  go_wp2_with fail
  refine (cut_any v1 xs row1 (by rw [Hxl.out]; omega) Hxw.out w1 Hxo.out (Hord.out.touch Ht1.out)).mono ?_
  rintro e w6 ⟨r, hr, wr6, hvr, rfl, ht6⟩
  have Hr := Lib.hid hr
  have Wr := Lib.hid wr6
  have Hvr := Lib.hid hvr
  have Ht6 := Lib.hid ht6
  clear hr wr6 hvr ht6
  go_wp2_with fail
  refine (sc_text_any r Hr.out Wr.out w6).mono ?_
  rintro e w7 ⟨rfl, ht7⟩
  have Ht7 := Lib.hid ht7
  clear ht7
  go_wp2_with fail
  go_ret
  exact ⟨ret_eq (by rw [Hvr.out, Hxv.out]; rfl), (Ht1.out.trans Ht6.out).trans Ht7.out⟩
/-! Neg -/
theorem ord_words : Words ordW := by intro x hx; simp [ordW] at hx; omega
/-- The order's cells. -/
abbrev OrdC (W : World) : Prop := W.cell? ⟨0, 0, none⟩ = some (.int .u64 6346243789798364141) ∧ W.cell? ⟨0, 1, none⟩ = some (.int .u64 1503914060200516822) ∧
  W.cell? ⟨0, 2, none⟩ = some (.int .u64 0) ∧ W.cell? ⟨0, 3, none⟩ = some (.int .u64 1152921504606846976)
theorem Ord.cells {W : World} (h : Ord W) : OrdC W := ⟨h.2 0 (by omega), h.2 1 (by omega), h.2 2 (by omega), h.2 3 (by omega)⟩
theorem OrdC.store {W : World} (h : Ord W) (g : Nat) (a b c d : Value) (hg : g ≠ 0) :
    OrdC ((((W.setCell ⟨g, 0, none⟩ a).setCell ⟨g, 1, none⟩ b).setCell ⟨g, 2, none⟩ c).setCell ⟨g, 3, none⟩ d) := by
  have hc : ∀ j, ((((W.setCell ⟨g, 0, none⟩ a).setCell ⟨g, 1, none⟩ b).setCell ⟨g, 2, none⟩ c).setCell ⟨g, 3, none⟩ d).cell? ⟨0, j, none⟩ = W.cell? ⟨0, j, none⟩ := fun j => by
    refine World.cell?_of_block ?_
    rw [Below.heap_setCell _ _ _ _ (Ne.symm hg), Below.heap_setCell _ _ _ _ (Ne.symm hg), Below.heap_setCell _ _ _ _ (Ne.symm hg), Below.heap_setCell _ _ _ _ (Ne.symm hg)]
  exact ⟨(hc 0).trans (h.2 0 (by omega)), (hc 1).trans (h.2 1 (by omega)), (hc 2).trans (h.2 2 (by omega)), (hc 3).trans (h.2 3 (by omega))⟩
theorem neg_val {d r n u : Nat} (h : d + r = val ordW + u * 18446744073709551616 ^ 4) (hr : r = n % ell) (hu : u ≤ 1) (hd : d < 115792089237316195423570985008687907853269984665640564039457584007913129639936) : d = ell - n % ell := by
  have hl : n % ell < ell := Nat.mod_lt _ (by decide)
  rw [val_ord] at h
  have e : (18446744073709551616 : Nat) ^ 4 = 115792089237316195423570985008687907853269984665640564039457584007913129639936 := by decide
  rw [e] at h
  have e2 : ell = 7237005577332262213973186563042994240857116359379907606001950938285454250989 := rfl
  rcases (show u = 0 ∨ u = 1 by omega) with rfl | rfl <;> omega
def negN (n : Nat) : Nat := (ell - n % ell) % ell
set_option maxRecDepth 100000 in
set_option maxHeartbeats 4000000 in
theorem neg_any (s : ByteArray) (w : World) (hord : Ord w) :
    Calls Tryd.prog 10 #[.string s] w fun e w' => e = .returned (.string (toS (negN (numS s)))) ∧ Touch [] w w' := by
  have Hord := Lib.hid hord
  have hoc : w.cell? ⟨0, 0, none⟩ = some (.int .u64 6346243789798364141) ∧ w.cell? ⟨0, 1, none⟩ = some (.int .u64 1503914060200516822) ∧
    w.cell? ⟨0, 2, none⟩ = some (.int .u64 0) ∧ w.cell? ⟨0, 3, none⟩ = some (.int .u64 1152921504606846976) := hord.cells
  obtain ⟨o0, o1, o2, o3⟩ := hoc
  clear hord
  have hon : numV ordW = .agg #[.int .u64 6346243789798364141, .int .u64 1503914060200516822, .int .u64 0, .int .u64 1152921504606846976] := rfl
  have Hsub : Hid (∀ (b : List Nat) (hb : b.length = 4) (wb : Words b) (w : World), Calls Tryd.prog 28 #[.agg #[.int .u64 6346243789798364141, .int .u64 1503914060200516822, .int .u64 0, .int .u64 1152921504606846976], numV b] w (SubPost ordW b w)) := Lib.hid (fun b hb wb w => sc_sub_any ordW b rfl hb ord_words wb w)
  clear hon
  go_enter Tryd.func10, Tryd.ntmps10
  go_upto_region 1 with fail
  go_cut [3, 4] (fun vp _ wx => ∃ (g : Nat) (d : List Nat), vp = .pointer (some ⟨g, 0, none⟩) ∧ d.length = 4 ∧ Words d ∧ val d = ell - numS s % ell ∧ Blk wx g 39 (cellsN d).toArray ∧ Touch [] w wx)
  case first =>
    have Hne : Hid (∀ W : World, Touch [] w W → W.heap.size ≠ 0) := Lib.hid (fun W h => by have h0 := Hord.out.1; have h1 := h.size; omega)
    have HT0 : Hid (Touch [] w w.drew) := Lib.hid (Touch.refl [] w).drew
    go_region_held3 (fun W => W.cell? ⟨0, 0, none⟩ = some (.int .u64 6346243789798364141) ∧ W.cell? ⟨0, 1, none⟩ = some (.int .u64 1503914060200516822) ∧ W.cell? ⟨0, 2, none⟩ = some (.int .u64 0) ∧ W.cell? ⟨0, 3, none⟩ = some (.int .u64 1152921504606846976))
      (first | go_keep | with_reducible exact (Hord.out.touch HT3.out).cells | with_reducible exact (Hord.out.touch (HT3.out.alloc _)).cells | with_reducible exact (Hord.out.touch HT2.out).cells | with_reducible exact (Hord.out.touch (HT2.out.alloc _)).cells | with_reducible exact (Hord.out.touch HT1.out).cells | with_reducible exact (Hord.out.touch (HT1.out.alloc _)).cells | with_reducible exact (Hord.out.touch (HT0.out.alloc _)).cells | with_reducible exact (Hord.out.touch (((Touch.refl [] w).alloc _).drew)).cells | with_reducible exact OrdC.store (Hord.out.touch HT3.out) _ _ _ _ _ (Hne.out _ HT2.out) | with_reducible exact OrdC.store (Hord.out.touch HT3.out) _ _ _ _ _ (Hne.out _ HT1.out) | with_reducible exact OrdC.store (Hord.out.touch HT3.out) _ _ _ _ _ (Hne.out _ (Touch.refl [] w)) | with_reducible exact OrdC.store (Hord.out.touch (HT3.out.alloc _)) _ _ _ _ _ (Hne.out _ HT3.out))
      (first
        | (go_at_call 14; refine (load_any s 8 (by omega) _).mono ?_; rintro e w1 ⟨v1, xs, row1, rfl, hxl, hxw, hxv, hxo, ht1, hn1⟩; have Hxl := Lib.hid hxl; have Hxw := Lib.hid hxw; have Hxv := Lib.hid hxv; have Hxo := Lib.hid hxo; have HT1 : Hid (Touch [] w w1) := Lib.hid (by first | with_reducible exact HT0.out.trans ht1 | with_reducible exact (HT0.out.alloc _).trans ht1 | with_reducible exact (((Touch.refl [] w).alloc _).drew).trans ht1); (try (with_reducible have HZ1 := Lib.hid ((Blk.new w.drew 39 #[.int .u64 0, .int .u64 0, .int .u64 0, .int .u64 0]).touch ht1 (by simp)))); (try (with_reducible have HZ1 := Lib.hid ((Blk.new w 39 #[.int .u64 0, .int .u64 0, .int .u64 0, .int .u64 0]).drew.touch ht1 (by simp)))); clear hxl hxw hxv hxo ht1 hn1)
        | (go_at_call 13; refine (cut_any v1 xs row1 (by rw [Hxl.out]; omega) Hxw.out _ (by first | with_reducible exact Hxo.out | with_reducible exact Hxo.out.alloc _) (by first | with_reducible exact Hord.out.touch HT1.out | with_reducible exact Hord.out.touch (HT1.out.alloc _))).mono ?_; rintro e w6 ⟨r, hr, wr6, hvr, rfl, ht6⟩; have Hr := Lib.hid hr; have Wr := Lib.hid wr6; have Hvr := Lib.hid hvr; have HT2 : Hid (Touch [] w w6) := Lib.hid (by first | with_reducible exact HT1.out.trans ht6 | with_reducible exact (HT1.out.alloc _).trans ht6); (try (with_reducible have HZ2 := Lib.hid (HZ1.out.touch ht6 (by simp)))); (try (with_reducible have HZ2 := Lib.hid ((Blk.new w1 39 #[.int .u64 0, .int .u64 0, .int .u64 0, .int .u64 0]).touch ht6 (by simp)))); clear hr wr6 hvr ht6)
        | (go_at_call 28; refine (Hsub.out r Hr.out Wr.out _).mono ?_; rintro e w7 ⟨d, u, hd, wd, hu, hvd, rfl, ht7⟩; obtain ⟨d0, d1, d2, d3, rfl⟩ : ∃ d0 d1 d2 d3, d = [d0, d1, d2, d3] := (by match d, hd with | [d0, d1, d2, d3], _ => exact ⟨d0, d1, d2, d3, rfl⟩); have Wd := Lib.hid wd; have Hvd := Lib.hid hvd; have Hu := Lib.hid hu; have HT3 : Hid (Touch [] w w7) := Lib.hid (by first | with_reducible exact HT2.out.trans ht7 | with_reducible exact (HT2.out.alloc _).trans ht7); (try (with_reducible have HZ3 := Lib.hid (HZ2.out.touch ht7 (by simp)))); (try (with_reducible have HZ3 := Lib.hid ((Blk.new w6 39 #[.int .u64 0, .int .u64 0, .int .u64 0, .int .u64 0]).touch ht7 (by simp)))); (try (have z0 := HZ3.out.cell 0; have z1 := HZ3.out.cell 1; have z2 := HZ3.out.cell 2; have z3 := HZ3.out.cell 3; have zf := fun j => HZ3.out.frozen j; simp only [List.getElem?_toArray, List.getElem?_cons_zero, List.getElem?_cons_succ] at z0 z1 z2 z3)); clear hd wd hu hvd ht7; unfold numV cellsN; simp only [List.map_cons, List.map_nil]))
    all_goals
      have hval := neg_val Hvd.out (show val r = numS s % ell by rw [Hvr.out, Hxv.out]; rfl) Hu.out (val4_lt Wd.out rfl)
      have Hval := Lib.hid hval
      clear hval
      go_wp2_with fail
      go_meet
    · exact ⟨w7.heap.size, [d0, d1, d2, d3], rfl, rfl, Wd.out, Hval.out, Blk.new w7 _ _, HT3.out.alloc _⟩
    · exact ⟨w6.heap.size, [d0, d1, d2, d3], rfl, rfl, Wd.out, Hval.out, ((((HZ3.out.set_ 0 (.int .u64 (d0 : Int))).set_ 1 (.int .u64 (d1 : Int))).set_ 2 (.int .u64 (d2 : Int))).set_ 3 (.int .u64 (d3 : Int))), (((HT3.out.setCell (p := ⟨w6.heap.size, 0, none⟩) (.inr HT2.out.size) _).setCell (p := ⟨w6.heap.size, 1, none⟩) (.inr HT2.out.size) _).setCell (p := ⟨w6.heap.size, 2, none⟩) (.inr HT2.out.size) _).setCell (p := ⟨w6.heap.size, 3, none⟩) (.inr HT2.out.size) _⟩
    · exact ⟨w1.heap.size, [d0, d1, d2, d3], rfl, rfl, Wd.out, Hval.out, ((((HZ3.out.set_ 0 (.int .u64 (d0 : Int))).set_ 1 (.int .u64 (d1 : Int))).set_ 2 (.int .u64 (d2 : Int))).set_ 3 (.int .u64 (d3 : Int))), (((HT3.out.setCell (p := ⟨w1.heap.size, 0, none⟩) (.inr HT1.out.size) _).setCell (p := ⟨w1.heap.size, 1, none⟩) (.inr HT1.out.size) _).setCell (p := ⟨w1.heap.size, 2, none⟩) (.inr HT1.out.size) _).setCell (p := ⟨w1.heap.size, 3, none⟩) (.inr HT1.out.size) _⟩
    · exact ⟨w.heap.size, [d0, d1, d2, d3], rfl, rfl, Wd.out, Hval.out, ((((HZ3.out.set_ 0 (.int .u64 (d0 : Int))).set_ 1 (.int .u64 (d1 : Int))).set_ 2 (.int .u64 (d2 : Int))).set_ 3 (.int .u64 (d3 : Int))), (((HT3.out.setCell (p := ⟨w.heap.size, 0, none⟩) (.inr (Nat.le_refl _)) _).setCell (p := ⟨w.heap.size, 1, none⟩) (.inr (Nat.le_refl _)) _).setCell (p := ⟨w.heap.size, 2, none⟩) (.inr (Nat.le_refl _)) _).setCell (p := ⟨w.heap.size, 3, none⟩) (.inr (Nat.le_refl _)) _⟩
  case rest =>
    obtain ⟨g, d, rfl, hd, wd, hvd, hb, ht⟩ := hcut
    have Hd := Lib.hid hd
    have Wd := Lib.hid wd
    have Hvd := Lib.hid hvd
    have Ht := Lib.hid ht
    have hown : Own wc 39 1 (.slice (some ⟨g, 0, none⟩) 4 4) d.length (cellsN d) (some g) :=
      ⟨by rw [cellsN_len, Nat.mul_one], .inr ⟨g, 0, 4, _, by rw [hd], rfl, hb, by omega, by omega, by unfold maxLen; omega, by simp [cellsN_len, hd], fun j u hj => by rw [Nat.zero_add, List.getElem?_toArray]; exact hj⟩⟩
    have Hown := Lib.hid hown
    clear hd wd hvd ht hb hown o0 o1 o2 o3
    go_wp2_with fail
    refine (cut_any _ d (some g) (by rw [Hd.out]; omega) Wd.out wc Hown.out (Hord.out.touch Ht.out)).mono ?_
    rintro e w6 ⟨r, hr, wr6, hvr, rfl, ht6⟩
    have Hr := Lib.hid hr
    have Wr := Lib.hid wr6
    have Hvr := Lib.hid hvr
    have Ht6 := Lib.hid ht6
    clear hr wr6 hvr ht6
    go_wp2_with fail
    refine (sc_text_any r Hr.out Wr.out w6).mono ?_
    rintro e w7 ⟨rfl, ht7⟩
    have Ht7 := Lib.hid ht7
    clear ht7
    go_wp2_with fail
    go_ret
    exact ⟨ret_eq (by rw [Hvr.out, Hvd.out]; rfl), (Ht.out.trans Ht6.out).trans Ht7.out⟩
/-! Bit -/
theorem sc_index_bl (s : ByteArray) (i : Int) (q : Nat) (hi : i = q) (hq : q < s.size) (W : World) :
    (Instr.index 9 (.string s) (.int .i64 i)).run Tryd.prog W = .ok (.int .u8 (((bl s).getD q 0 : Nat) : Int)) W := by
  subst hi
  rw [run_index_string W 9 s .i64 q Tryd.underlying9, dif_pos ⟨by omega, by omega⟩]
  have hq2 : q < s.data.toList.length := hq
  congr 2
  simp only [bl, List.getD, List.getElem?_map, List.getElem?_eq_getElem hq2]
  rfl
/-! Clamp -/
/-! Fixed05 -/
/-! RingBase -/
theorem ell_lt : ell < 115792089237316195423570985008687907853269984665640564039457584007913129639936 := by decide
theorem num_toS {n : Nat} (h : n < ell) : numS (toS n) = n := by
  unfold numS
  rw [List.take_of_length_le (by rw [bl_len, toS_size]; omega), leN_toS, Nat.mod_eq_of_lt (Nat.lt_trans h ell_lt)]
theorem low_toS {n : Nat} (h : n < ell) : lowS (toS n) = n := by
  unfold lowS
  rw [List.take_of_length_le (by rw [bl_len, toS_size]; omega), leN_toS, Nat.mod_eq_of_lt (Nat.lt_trans h ell_lt)]
theorem mod_ell (n : Nat) : n % ell < ell := Nat.mod_lt _ (by decide)
/-- Cut, Right, Neg so. -/
def CuL (a : ByteArray) (n : Nat) : Prop := ∀ W : World, Ord W → Calls Tryd.prog 4 #[.string a] W fun e W' => e = .returned (.string (toS n)) ∧ Touch [] W W'
theorem cuL (a : ByteArray) (n : Nat) (h : numS a % ell = n) : CuL a n := fun W hW => h ▸ cutS_any a W hW
def NeL (a : ByteArray) (n : Nat) : Prop := ∀ W : World, Ord W → Calls Tryd.prog 10 #[.string a] W fun e W' => e = .returned (.string (toS n)) ∧ Touch [] W W'
theorem neL (a : ByteArray) (n : Nat) (h : negN (numS a) = n) : NeL a n := fun W hW => h ▸ neg_any a W hW
theorem low_one : lowS ⟨#[1]⟩ = 1 := by decide +kernel
theorem negN_lt (n : Nat) : negN n < ell := mod_ell _
/-! PartsWalk -/
theorem bl_ext (s : ByteArray) (i j : Nat) : bl (s.extract i j) = ((bl s).drop i).take (j - i) := by
  unfold bl
  simp [ByteArray.data_extract, List.map_take, List.map_drop]
def cutT (s : ByteArray) (n : Nat) : ByteArray := s.extract 0 (min s.size n)
theorem bl_cutT (s : ByteArray) (n : Nat) : bl (cutT s n) = (bl s).take n := by
  unfold cutT
  rw [bl_ext, List.drop_zero, Nat.sub_zero, ← bl_len, Nat.min_comm, ← List.take_take, List.take_length]
theorem cutT_le {s : ByteArray} {n : Nat} (h : s.size ≤ n) : cutT s n = s := by unfold cutT; rw [Nat.min_eq_left h]; simp
theorem cutT_gt {s : ByteArray} {n : Nat} (h : n < s.size) : s.extract 0 n = cutT s n := by unfold cutT; rw [Nat.min_eq_right (by omega)]
/-! DigitsWalk -/
/-! DoublesWalk -/
/-! RefSa -/
/-- The first n bytes, 0 behind them. -/
def sc_padN (l : List Nat) (n : Nat) : List Nat := l.take n ++ List.replicate (n - l.length) 0
theorem sc_padN_len (l : List Nat) (n : Nat) : (sc_padN l n).length = n := by simp [sc_padN]; omega
theorem sc_padN_at (l : List Nat) (n i : Nat) (hi : i < n) : (sc_padN l n).getD i 0 = l.getD i 0 := by
  unfold sc_padN
  by_cases h : i < l.length
  · simp only [List.getD, List.getElem?_append, List.length_take, List.getElem?_take]
    rw [if_pos (by omega), if_pos hi]
  · simp only [List.getD, List.getElem?_append, List.length_take, List.getElem?_replicate]
    rw [if_neg (by omega), List.getElem?_eq_none (show l.length ≤ i by omega)]
    split <;> rfl
theorem sc_leN_zeros (k : Nat) : leN (List.replicate k 0) = 0 := by
  induction k with
  | zero => rfl
  | succ k ih => rw [List.replicate_succ, leN, ih]
theorem sc_leN_padN (l : List Nat) (n : Nat) : leN (sc_padN l n) = leN (l.take n) := by unfold sc_padN; rw [leN_append, sc_leN_zeros, Nat.mul_zero, Nat.add_zero]
theorem padN_lt {l : List Nat} (h : ∀ b ∈ l, b < 256) (n : Nat) : ∀ b ∈ sc_padN l n, b < 256 := by
  intro b hb
  rcases List.mem_append.1 hb with hb | hb
  · exact h b (List.mem_of_mem_take hb)
  · rw [(List.mem_replicate.1 hb).2]; omega
theorem sc_take_snoc {l : List Nat} {k : Nat} (hk : k < l.length) : l.take (k + 1) = l.take k ++ [l.getD k 0] := by
  have h : l.take k ++ [l[k]] = l.take (k + 1) := List.take_append_getElem hk
  rw [← h]; simp [List.getD, hk]
theorem sc_getD_lt {l : List Nat} (h : ∀ b ∈ l, b < 256) (k : Nat) : l.getD k 0 < 256 := by
  by_cases hk : k < l.length
  · rw [List.getD, List.getElem?_eq_getElem hk]; exact h _ (List.getElem_mem hk)
  · rw [List.getD, List.getElem?_eq_none (by omega)]; decide
def DigitsPost (l : List Nat) (w : World) (e : Ending) (w' : World) : Prop := ∃ v, e = .returned v ∧ NewI w w' v l
set_option maxRecDepth 100000 in
set_option maxHeartbeats 1000000 in
theorem sc_digits_any (s : ByteArray) (n : Nat) (hn : n ≤ 100) (w : World) :
    Calls Tryd.prog 18 #[.string s, .int .i64 (n : Int)] w (DigitsPost (sc_padN (bl s) n) w) := by
  go_enter Tryd.func18, Tryd.ntmps18
  go_wp2_with fail
  go_loopw [5, 6] (fun vd vi wr => ∃ (k : Nat), k ≤ n ∧ vi = .int .i64 k ∧ NewI w wr vd ((sc_padN (bl s) n).take k)) (fun _ vi _ => n - (intOf vi).toNat)
  case atStart => exact ⟨0, by omega, rfl, ⟨none, Own.nil _ _ _ _, (Touch.refl _ _).alloc _, .refl _ _⟩⟩
  case round =>
    obtain ⟨k, hk, rfl, hd⟩ := hrel
    obtain ⟨A, c, rfl, _⟩ := hd.shape
    have hlen : ((sc_padN (bl s) n).take k).length = k := by rw [List.length_take, sc_padN_len]; omega
    have Hd := Lib.hid hd
    clear hd
    by_cases hkn : k < n
    · have hsn := Lib.hid (sc_take_snoc (l := sc_padN (bl s) n) (k := k) (by rw [sc_padN_len]; exact hkn))
      rw [sc_padN_at _ _ _ hkn] at hsn
      obtain ⟨L, hL⟩ : ∃ L, L = (sc_padN (bl s) n).take k := ⟨_, rfl⟩
      rw [← hL] at hlen Hd hsn ⊢
      clear hL
      by_cases hks : k < s.size
      · have hix := sc_index_bl s (k : Int) k rfl hks
        have hbl := sc_getD_lt (bl_lt s) k
        obtain ⟨b, hb⟩ : ∃ b, b = (bl s).getD k 0 := ⟨_, rfl⟩
        rw [← hb] at hix hbl hsn
        clear hb
        go_wp2_with (at_builtin; refine wpList_append_int w _ (.tmp 17) (.tmp 22) 48 Tryd.underlying48 rfl rfl Hd.out (by omega) b _ rfl rfl ?_)
        intro A2 c2 w2 h2
        have H2 := Lib.hid h2
        clear h2
        go_wp2_with fail
        go_roundw
        case rel => exact ⟨k + 1, by omega, by go_num, by rw [hsn.out]; exact H2.out⟩
        case measure => simp [intOf]; omega
      · have hz : (bl s).getD k 0 = 0 := by rw [List.getD, List.getElem?_eq_none (by rw [bl_len]; omega)]; rfl
        rw [hz] at hsn
        clear hz
        go_wp2_with (at_builtin; refine wpList_append_int w _ (.tmp 24) (.tmp 25) 48 Tryd.underlying48 rfl rfl Hd.out (by omega) 0 _ rfl rfl ?_)
        intro A2 c2 w2 h2
        have H2 := Lib.hid h2
        clear h2
        go_wp2_with fail
        go_roundw
        case rel => exact ⟨k + 1, by omega, by go_num, by rw [hsn.out]; exact H2.out⟩
        case measure => simp [intOf]; omega
    · obtain rfl : k = n := by omega
      have hall : (sc_padN (bl s) k).take k = sc_padN (bl s) k := List.take_of_length_le (by rw [sc_padN_len]; omega)
      rw [hall] at Hd hlen ⊢
      clear hall
      go_wp2_with fail
      go_ret
      exact ⟨_, rfl, Hd.out⟩
theorem order_any (w : World) : Calls Tryd.prog 65 #[] w fun e w' => e = .returned (.string ⟨#[237, 211, 245, 92, 26, 99, 18, 88, 214, 156, 247, 162, 222, 249, 222, 20, 0, 0, 0, 0, 0, 0, 0, 0, 0, 0, 0, 0, 0, 0, 0, 16]⟩) ∧ w = w' := by
  go_enter Tryd.func65, Tryd.ntmps65
  go_wp2_with fail
  go_ret
  exact ⟨rfl, rfl⟩
/-! RefSb -/
theorem leN_split {l : List Nat} {j : Nat} (hj : j < l.length) : leN l = leN (l.take j) + 256 ^ j * (l.getD j 0 + 256 * leN (l.drop (j + 1))) := by
  conv => lhs; rw [← List.take_append_drop j l, leN_append, List.length_take, Nat.min_eq_left (by omega), List.drop_eq_getElem_cons hj]
  rw [leN]
  simp [List.getD, hj]
theorem take_lt {l : List Nat} (h : ∀ b ∈ l, b < 256) {j : Nat} (hj : j ≤ l.length) : leN (l.take j) < 256 ^ j := by
  have h1 := leN_lt (l := l.take j) (fun b hb => h b (List.mem_of_mem_take hb))
  rwa [List.length_take, Nat.min_eq_left hj] at h1
theorem leN_cmp {l m : List Nat} (hlm : l.length = m.length) (hl : ∀ b ∈ l, b < 256) (hm : ∀ b ∈ m, b < 256) {j : Nat} (hj : j < l.length) (hd : l.drop (j + 1) = m.drop (j + 1)) (hne : l.getD j 0 ≠ m.getD j 0) :
    decide (leN l < leN m) = decide (l.getD j 0 < m.getD j 0) := by
  have h1 := leN_split hj
  have h2 := leN_split (l := m) (by rw [← hlm]; exact hj)
  have b1 := take_lt hl (Nat.le_of_lt hj)
  have b2 := take_lt hm (j := j) (by omega)
  rw [hd] at h1
  rw [h1, h2]
  generalize leN (m.drop (j + 1)) = r at *
  generalize l.getD j 0 = x at *
  generalize m.getD j 0 = y at *
  generalize leN (l.take j) = a at *
  generalize leN (m.take j) = b at *
  generalize 256 ^ j = P at *
  apply decide_eq_decide.2
  constructor
  · intro h
    rcases Nat.lt_or_ge x y with h' | h'
    · exact h'
    · exfalso
      have : P * (y + 256 * r + 1) ≤ P * (x + 256 * r) := Nat.mul_le_mul_left _ (by omega)
      rw [Nat.mul_add P (y + 256 * r) 1] at this
      omega
  · intro h'
    have : P * (x + 256 * r + 1) ≤ P * (y + 256 * r) := Nat.mul_le_mul_left _ (by omega)
    rw [Nat.mul_add P (x + 256 * r) 1] at this
    omega
theorem drop_getD {l : List Nat} {j : Nat} (hj : j < l.length) : l.drop j = l.getD j 0 :: l.drop (j + 1) := by
  rw [List.drop_eq_getElem_cons hj]; simp [List.getD, hj]
/-- The order's digits. -/
def ordL (n : Nat) : List Nat := sc_padN (bl (⟨#[237, 211, 245, 92, 26, 99, 18, 88, 214, 156, 247, 162, 222, 249, 222, 20, 0, 0, 0, 0, 0, 0, 0, 0, 0, 0, 0, 0, 0, 0, 0, 16]⟩ : ByteArray)) n
theorem ordL_len (n : Nat) : (ordL n).length = n := sc_padN_len _ _
theorem ordL_lt (n : Nat) : ∀ b ∈ ordL n, b < 256 := padN_lt (bl_lt _) n
theorem ordL_num {n : Nat} (h : 32 ≤ n) : leN (ordL n) = ell := by
  unfold ordL
  rw [sc_leN_padN, List.take_of_length_le (by rw [bl_len]; exact h)]
  decide +kernel
theorem ordL_at {n j : Nat} (h : j < n) : (ordL n).getD j 0 = (bl (⟨#[237, 211, 245, 92, 26, 99, 18, 88, 214, 156, 247, 162, 222, 249, 222, 20, 0, 0, 0, 0, 0, 0, 0, 0, 0, 0, 0, 0, 0, 0, 0, 16]⟩ : ByteArray)).getD j 0 := sc_padN_at _ _ _ h
theorem ord_far {j : Nat} (h : 32 ≤ j) : (bl (⟨#[237, 211, 245, 92, 26, 99, 18, 88, 214, 156, 247, 162, 222, 249, 222, 20, 0, 0, 0, 0, 0, 0, 0, 0, 0, 0, 0, 0, 0, 0, 0, 16]⟩ : ByteArray)).getD j 0 = 0 := by rw [List.getD, List.getElem?_eq_none (by rw [bl_len]; exact h)]; rfl
set_option maxRecDepth 100000 in
set_option maxHeartbeats 1000000 in
theorem below_any (v : Value) (l : List Nat) (row : Option Nat) (w : World) (ho : Own w 3 1 v l.length (cellsI l) row) (h32 : 32 ≤ l.length) (h100 : l.length ≤ 100) (hb : ∀ b ∈ l, b < 256) :
    Calls Tryd.prog 48 #[v] w fun e w' => e = .returned (.bool (decide (leN l < ell))) ∧ w = w' := by
  obtain ⟨g, off, c, rfl, _, hg, hnc, hcm, _, hx⟩ := ho.cell1 (by omega)
  have hx2 := Lib.hid (fun k (hk : k < l.length) => hx k _ (cellsI_at hk))
  have Hb := Lib.hid hb
  have HO := Lib.hid (ordL_num h32)
  have hcm' : c ≤ 9223372036854775807 := hcm
  clear hx ho hb hcm
  obtain ⟨n, hn⟩ : ∃ n, n = l.length := ⟨_, rfl⟩
  have Hn := Lib.hid hn
  rw [← hn] at hnc h32 h100 HO
  rw [← hn]
  clear hn
  go_enter Tryd.func48, Tryd.ntmps48
  go_wp2_with fail
  go_loopw [3] (fun vi wr => ∃ k : Nat, k ≤ n ∧ vi = .int .i64 ((k : Int) - 1) ∧ l.drop k = (ordL n).drop k ∧ w = wr) (fun vi _ => (intOf vi + 1).toNat)
  case atStart => exact ⟨n, by omega, rfl, by rw [List.drop_of_length_le (by rw [Hn.out]; omega), List.drop_of_length_le (by rw [ordL_len]; omega)], rfl⟩
  case round =>
    obtain ⟨k, hk, rfl, hd, rfl⟩ := hrel
    have Hd := Lib.hid hd
    clear hd
    rcases k with _ | j
    · have he : Hid (decide (leN l < ell) = false) := Lib.hid (by
        have := Hd.out
        rw [List.drop_zero, List.drop_zero] at this
        rw [this, HO.out]; simp)
      rw [show (((0 : Nat) : Int) - 1) = -1 by omega]
      go_wp2_with fail
      go_ret
      exact ⟨ret_bool he.out.symm, rfl⟩
    · rw [show (((j + 1 : Nat) : Int) - 1) = (j : Int) by omega]
      have hc := hx2.out j (by rw [← Hn.out]; omega)
      have hxl := sc_getD_lt Hb.out j
      have hyl := sc_getD_lt (bl_lt ⟨#[237, 211, 245, 92, 26, 99, 18, 88, 214, 156, 247, 162, 222, 249, 222, 20, 0, 0, 0, 0, 0, 0, 0, 0, 0, 0, 0, 0, 0, 0, 0, 16]⟩) j
      have hcmp := Lib.hid (fun h => leN_cmp (l := l) (m := ordL n) (j := j) (by rw [ordL_len, Hn.out]) Hb.out (ordL_lt n) (by rw [← Hn.out]; omega) Hd.out h)
      have hstep := Lib.hid (fun (h : l.getD j 0 = (bl (⟨#[237, 211, 245, 92, 26, 99, 18, 88, 214, 156, 247, 162, 222, 249, 222, 20, 0, 0, 0, 0, 0, 0, 0, 0, 0, 0, 0, 0, 0, 0, 0, 16]⟩ : ByteArray)).getD j 0) => show l.drop j = (ordL n).drop j by
        rw [drop_getD (by rw [← Hn.out]; omega), drop_getD (l := ordL n) (by rw [ordL_len]; omega), Hd.out, ordL_at (by omega), h])
      rw [ordL_at (by omega), HO.out] at hcmp
      have hix := fun h => sc_index_bl (⟨#[237, 211, 245, 92, 26, 99, 18, 88, 214, 156, 247, 162, 222, 249, 222, 20, 0, 0, 0, 0, 0, 0, 0, 0, 0, 0, 0, 0, 0, 0, 0, 16]⟩ : ByteArray) (j : Int) j rfl h
      have hfar := ord_far (j := j)
      obtain ⟨y, hy⟩ : ∃ y, y = (bl (⟨#[237, 211, 245, 92, 26, 99, 18, 88, 214, 156, 247, 162, 222, 249, 222, 20, 0, 0, 0, 0, 0, 0, 0, 0, 0, 0, 0, 0, 0, 0, 0, 16]⟩ : ByteArray)).getD j 0 := ⟨_, rfl⟩
      obtain ⟨x, hxe⟩ : ∃ x, x = l.getD j 0 := ⟨_, rfl⟩
      rw [← hy] at hix hyl hcmp hstep hfar
      rw [← hxe] at hc hxl hcmp hstep
      clear hy hxe
      have hk' : Hid (j ≤ n) := Lib.hid (by omega)
      by_cases hj : j < 32
      · have hix' := hix hj
        clear hix hfar
        go_upto_if 13 with fail
        go_cut [4] (fun vx wx => vx = .int .i64 (y : Int) ∧ w = wx)
        case first =>
          go_wp2_with fail
          refine (order_any _).mono ?_
          rintro e wz ⟨rfl, rfl⟩
          go_wp2_with fail
          go_meet
          exact ⟨rfl, rfl⟩
        case rest =>
          obtain ⟨rfl, rfl⟩ := hcut
          clear hix'
          by_cases hxy : x = y
          · subst hxy
            go_wp2_with fail
            go_roundw
            case rel => exact ⟨j, hk'.out, by go_num, hstep.out rfl, trivial⟩
            case measure => simp [intOf]
          · have h1 : (((x : Int) != (y : Int))) = true := by rw [bne_iff_ne]; omega
            have h2 := Lib.hid (hcmp.out hxy)
            clear hcmp hstep
            go_wp2_with fail
            go_ret
            exact ⟨ret_bool (by rw [h2.out]), rfl⟩
      · have hy0 := hfar (by omega)
        subst hy0
        clear hix hfar
        by_cases hxy : x = 0
        · subst hxy
          go_wp2_with fail
          go_roundw
          case rel => exact ⟨j, hk'.out, by go_num, hstep.out rfl, trivial⟩
          case measure => simp [intOf]
        · have h1 : (((x : Int) != 0)) = true := by rw [bne_iff_ne]; omega
          have h2 := Lib.hid (hcmp.out hxy)
          clear hcmp hstep
          go_wp2_with fail
          go_ret
          exact ⟨ret_bool (by rw [h2.out]; simp), rfl⟩
/-! RefSc -/
/-- Where the cells of a row lie. -/
theorem Own.sc_cellAt {w : World} {e n g off c : Nat} {xs : List Value} {row : Option Nat} (h : Own w e 1 (.slice (some ⟨g, off, none⟩) n c) n xs row) (hn : 0 < n) : ∀ k u, xs[k]? = some u → w.cell? ⟨g, off + k, none⟩ = some u := by
  obtain ⟨g', off', c', hv, _, _, _, _, _, hx⟩ := h.cell1 hn
  injection hv with ha _ _
  injection ha with ha
  injection ha with h1 h2
  subst h1; subst h2
  exact hx
def LessPost (l : List Nat) (w : World) (e : Ending) (w' : World) : Prop :=
  ∃ v l', e = .returned v ∧ NewI w w' v l' ∧ l'.length = l.length ∧ (∀ b ∈ l', b < 256) ∧ leN l' + ell = leN l
theorem leN_snoc (o : List Nat) (x : Nat) : leN (o ++ [x]) = leN o + 256 ^ o.length * x := by rw [leN_append]; simp [leN]
theorem less_step {l o : List Nat} {n k c x y z c' : Nat} (hk : k < n) (hl : l.length = n) (ho : o.length = k) (hx : x = l.getD k 0) (hy : y = (ordL n).getD k 0)
    (hs : z + y + c = x + c' * 256) (hv : leN o + leN ((ordL n).take k) = leN (l.take k) + c * 256 ^ k) :
    leN (o ++ [z]) + leN ((ordL n).take (k + 1)) = leN (l.take (k + 1)) + c' * 256 ^ (k + 1) := by
  rw [leN_snoc, leN_take_succ (l := ordL n) (by rw [ordL_len]; omega), leN_take_succ (l := l) (by omega), ho, ← hx, ← hy, Nat.pow_succ]
  generalize 256 ^ k = P at *
  have h : P * (z + y + c) = P * (x + c' * 256) := by rw [hs]
  grind
theorem mem_snoc_lt {o : List Nat} {z : Nat} (ho : ∀ b ∈ o, b < 256) (hz : z < 256) : ∀ b ∈ o ++ [z], b < 256 := by
  intro b hb
  rcases List.mem_append.1 hb with hb | hb
  · exact ho b hb
  · rw [List.mem_singleton.1 hb]; exact hz
theorem less_last {l o : List Nat} {n c : Nat} (h32 : 32 ≤ n) (hl : l.length = n) (ho : o.length = n) (hob : ∀ b ∈ o, b < 256) (hge : ell ≤ leN l)
    (hv : leN o + leN ((ordL n).take n) = leN (l.take n) + c * 256 ^ n) : leN o + ell = leN l := by
  rw [List.take_of_length_le (by rw [ordL_len]; omega), List.take_of_length_le (by omega), ordL_num h32] at hv
  have h1 := leN_lt hob
  rw [ho] at h1
  rcases Nat.eq_zero_or_pos c with h0 | h0
  · subst h0; omega
  · have : 256 ^ n ≤ c * 256 ^ n := Nat.le_mul_of_pos_left _ h0
    omega
set_option maxRecDepth 100000 in
set_option maxHeartbeats 2000000 in
theorem less_any (v : Value) (l : List Nat) (row : Option Nat) (w : World) (ho : Own w 3 1 v l.length (cellsI l) row) (h32 : 32 ≤ l.length) (h100 : l.length ≤ 100) (hb : ∀ b ∈ l, b < 256) (hge : ell ≤ leN l) :
    Calls Tryd.prog 49 #[v] w (LessPost l w) := by
  have Hown := Lib.hid ho
  obtain ⟨g, off, c, rfl, hrow, hg, hnc, hcm, _, _⟩ := ho.cell1 (by omega)
  have hcm' : c ≤ 9223372036854775807 := hcm
  have Hb := Lib.hid hb
  have Hge := Lib.hid hge
  clear ho hb hcm hge
  obtain ⟨n, hn⟩ : ∃ n, n = l.length := ⟨_, rfl⟩
  have Hn := Lib.hid hn
  rw [← hn] at hnc h32 h100 Hown
  rw [← hn]
  clear hn hrow
  go_enter Tryd.func49, Tryd.ntmps49
  go_wp2_with fail
  go_loopw [3, 4, 5] (fun vo vc vi wr => ∃ (k c : Nat) (o : List Nat), k ≤ n ∧ vi = .int .i64 k ∧ vc = .int .i64 c ∧ c ≤ 1 ∧ NewI w wr vo o ∧ o.length = k ∧ (∀ b ∈ o, b < 256) ∧ leN o + leN ((ordL n).take k) = leN (l.take k) + c * 256 ^ k) (fun _ _ vi _ => n - (intOf vi).toNat)
  case atStart => exact ⟨0, 0, [], by omega, rfl, rfl, by omega, ⟨none, Own.nil _ _ _ _, (Touch.refl _ _).alloc _, .refl _ _⟩, rfl, by simp, by simp [leN]⟩
  case round =>
    obtain ⟨k, c1, o, hk, rfl, rfl, hc1, ho, hol, hob, hv⟩ := hrel
    obtain ⟨Ao, co, rfl, _⟩ := ho.shape
    have Ho := Lib.hid ho
    have Hol := Lib.hid hol
    have Hob := Lib.hid hob
    have Hv := Lib.hid hv
    clear ho hob hv
    by_cases hkn : k < n
    · have hcell := (Hown.out.touch Ho.out.touch (by simp)).sc_cellAt (by omega) k _ (cellsI_at (by rw [← Hn.out]; exact hkn))
      have hxl := sc_getD_lt Hb.out k
      have hyl := sc_getD_lt (ordL_lt n) k
      have hstep := Lib.hid (fun z c' => less_step (l := l) (o := o) (n := n) (k := k) (c := c1) (z := z) (c' := c') hkn Hn.out.symm Hol.out rfl rfl)
      have hya := Lib.hid (ordL_at (n := n) hkn)
      obtain ⟨x, hx⟩ : ∃ x, x = l.getD k 0 := ⟨_, rfl⟩
      obtain ⟨y, hy⟩ : ∃ y, y = (ordL n).getD k 0 := ⟨_, rfl⟩
      rw [← hx, ← hy] at hstep
      rw [← hx] at hcell hxl
      rw [← hy] at hyl hya
      clear hx hy
      have hix := fun h => sc_index_bl ⟨#[237, 211, 245, 92, 26, 99, 18, 88, 214, 156, 247, 162, 222, 249, 222, 20, 0, 0, 0, 0, 0, 0, 0, 0, 0, 0, 0, 0, 0, 0, 0, 16]⟩ (k : Int) k rfl h
      rw [← hya.out] at hix
      have hfar := Lib.hid (fun h => hya.out.trans (ord_far (j := k) h))
      clear hya
      have hol' : o.length ≤ 1000000 := by omega
      clear hol
      go_upto_if 21 with fail
      go_cut [6] (fun vx wx => vx = .int .i64 ((x : Int) - c1 - y) ∧ wr = wx)
      case first =>
        by_cases hj : k < 32
        · have hix' := hix hj
          clear hix
          go_wp2_with fail
          refine (order_any _).mono ?_
          rintro e wz ⟨rfl, rfl⟩
          go_wp2_with fail
          go_meet
          exact ⟨rfl, rfl⟩
        · have hy0 := hfar.out (by omega)
          clear hix
          go_wp2_with fail
          go_meet
          exact ⟨by subst hy0; simp, rfl⟩
      case rest =>
        obtain ⟨rfl, rfl⟩ := hcut
        clear hix hfar
        by_cases hneg : x < c1 + y
        · have hneg' : decide ((x : Int) - c1 - y < 0) = true := decide_eq_true (by omega)
          obtain ⟨z, hz⟩ : ∃ z, z = x + 256 - c1 - y := ⟨_, rfl⟩
          have hz1 : (x : Int) - c1 - y + 256 = (z : Int) := by omega
          have hz2 := Lib.hid (show z < 256 by omega)
          have hst := Lib.hid (hstep.out z 1 (by omega) Hv.out)
          clear hstep hz
          have Hz1 := Lib.hid hz1
          clear hz1
          go_upto_region 12 with fail
          rw [Hz1.out]
          go_wp2_with (at_builtin; refine wpList_append_int w _ (.tmp 32) (.tmp 34) 48 Tryd.underlying48 rfl rfl Ho.out hol' z _ rfl rfl ?_)
          intro A2 c2 w2 h2
          have H2 := Lib.hid h2
          clear h2
          go_wp2_with fail
          go_roundw
          case rel => exact ⟨k + 1, 1, o ++ [z], by omega, by go_num, rfl, by omega, H2.out, by rw [List.length_append, Hol.out]; rfl, mem_snoc_lt Hob.out hz2.out, hst.out⟩
          case measure => simp [intOf]; omega
        · have hneg' : decide ((x : Int) - c1 - y < 0) = false := decide_eq_false (by omega)
          obtain ⟨z, hz⟩ : ∃ z, z = x - c1 - y := ⟨_, rfl⟩
          have hz1 : (x : Int) - c1 - y = (z : Int) := by omega
          have hz2 := Lib.hid (show z < 256 by omega)
          have hst := Lib.hid (hstep.out z 0 (by omega) Hv.out)
          clear hstep hz
          have Hz1 := Lib.hid hz1
          clear hz1
          go_upto_region 12 with fail
          rw [Hz1.out]
          go_wp2_with (at_builtin; refine wpList_append_int w _ (.tmp 32) (.tmp 34) 48 Tryd.underlying48 rfl rfl Ho.out hol' z _ rfl rfl ?_)
          intro A2 c2 w2 h2
          have H2 := Lib.hid h2
          clear h2
          go_wp2_with fail
          go_roundw
          case rel => exact ⟨k + 1, 0, o ++ [z], by omega, by go_num, rfl, by omega, H2.out, by rw [List.length_append, Hol.out]; rfl, mem_snoc_lt Hob.out hz2.out, hst.out⟩
          case measure => simp [intOf]; omega
    · obtain rfl : k = n := by omega
      have hfin := Lib.hid (less_last (h32) Hn.out.symm Hol.out Hob.out Hge.out Hv.out)
      clear hcm'
      go_wp2_with fail
      go_ret
      exact ⟨_, o, rfl, Ho.out, by rw [Hol.out, Hn.out], Hob.out, hfin.out⟩
/-! RefSd -/
theorem make_33 (w : World) : (Instr.makeSlice 48 (.int .i64 33) (.int .i64 33)).run Tryd.prog w =
    .ok (.slice (some ⟨w.heap.size, 0, none⟩) 33 33) (w.alloc (.cells (cellsI (List.replicate 33 0)).toArray 3)) := by kernel_rfl
theorem NewI.sc_made (w0 w : World) (k : Touch [] w0 w) (l : List Nat) (hl : 0 < l.length) (hm : l.length ≤ 1000000) :
    NewI w0 (w.alloc (.cells (cellsI l).toArray 3)) (.slice (some ⟨w.heap.size, 0, none⟩) l.length l.length) l := by
  have h := Own.built w 3 l.length (cellsI l).toArray (by simp [cellsI]) hl (by unfold maxLen; omega)
  rw [List.toList_toArray] at h
  exact ⟨_, h, k.alloc _, .fresh _ _ k.size⟩
/-- The first m of a row. -/
theorem Own.sc_pre {w : World} {e n g off c m : Nat} {xs : List Value} {row : Option Nat} (h : Own w e 1 (.slice (some ⟨g, off, none⟩) n c) n xs row) (hm : m ≤ n) (hn : 0 < n) :
    Own w e 1 (.slice (some ⟨g, off, none⟩) m c) m (xs.take m) row := by
  obtain ⟨g', off', c', cur, hv, hrow, hb, h0, hnc, hcm, hcs, hx⟩ := h.at_ hn
  injection hv with ha _ hcc
  injection ha with ha
  injection ha with h1 h2
  subst h1; subst h2; subst hcc
  refine ⟨by rw [List.length_take, h.1]; omega, .inr ⟨g, off, c, cur, rfl, hrow, hb, h0, by omega, hcm, hcs, fun j u hj => hx j u ?_⟩⟩
  rw [List.getElem?_take] at hj
  split at hj
  · exact hj
  · cases hj
/-- A row of numbers more. -/
theorem sc_wpList_append_ints (w0 : World) {ops : Array Oper} {rest : List Oper} {o : Oper} {a : Act} {Q : Exit → Act → World → Prop} (w : World) (s x : Operand) (t : TypeId)
    (ht : Tryd.prog.underlying t = some (.slice 3)) (hgd : o.guard = none)
    (ho : o.op = .call { callee := .builtin .append, args := #[s, x], argTypes := #[t, t] })
    {v : Value} {l : List Nat} (hown : NewI w0 w v l) (hl : l.length ≤ 1000000) (m : List Nat) (hml : m.length ≤ 1000000) {xv : Value} {rx : Option Nat} (hsrc : Own w 3 1 xv m.length (cellsI m) rx)
    (hv : a.eval s = v) (hx : a.eval x = xv)
    (h : ∀ A c w', NewI w0 w' (.slice A (l ++ m).length c) (l ++ m) → wpList Tryd.prog ops Q rest (a.put o.dst (.slice A (l ++ m).length c)) w') :
    wpList Tryd.prog ops Q (o :: rest) a w := by
  obtain ⟨row, hw, hto, hn⟩ := hown
  obtain ⟨i, hi, hz, hs, hb⟩ := info_parts infoInt
  refine wpList_append_Own w hgd s x t t ho 3 i _ 1 8 ht hi hz hs hb rfl v l.length (cellsI l) row hv hw _ m.length (cellsI m) hx (hsrc.src (cellsI_one m) ht) (by unfold maxLen; omega) (by omega) ?_
  intro v' w' row' h1 h2 h3
  obtain ⟨A, c, rfl, _⟩ := h1.shape
  rw [← cellsI_append] at h1
  have hl : (l ++ m).length = l.length + m.length := by simp
  rw [← hl] at h1 ⊢
  have hto' : Touch [] w0 w' := ⟨h2.os.trans hto.os, h2.tape.trans hto.tape, h2.output.trans hto.output, Nat.le_trans hto.size h2.size, fun i hi hni => (h2.block i (Nat.lt_of_lt_of_le hi hto.size) (fun hm => by
    rcases hn i (Option.mem_toList.1 hm) with h' | h'
    · cases h'
    · omega)).trans (hto.block i hi hni)⟩
  exact h A c w' ⟨row', h1, hto', hn.trans h3 hto.size⟩
theorem sc_getD_map_int (l : List Nat) (i : Nat) : (l.map fun (n : Nat) => (n : Int)).getD i 0 = ((l.getD i 0 : Nat) : Int) := by
  simp only [List.getD, List.getElem?_map]
  cases l[i]? <;> rfl
theorem leN_cons0 {l : List Nat} (hl : l.length = 33) (hlt : leN l < ell) : leN (l.take 32) = leN l := by
  have h := leN_take_succ (l := l) (k := 32) (by omega)
  rw [List.take_of_length_le (by omega)] at h
  have h0 : l.getD 32 0 = 0 := by
    apply Classical.byContradiction
    intro hne
    have h1 : 256 ^ 32 * 1 ≤ 256 ^ 32 * l.getD 32 0 := Nat.mul_le_mul_left _ (by omega)
    have h2 : ell < 256 ^ 32 := by decide
    omega
  rw [h0] at h
  omega
theorem drop_num {l : List Nat} {j : Nat} (hj : j < l.length) : leN (l.drop j) = l.getD j 0 + 256 * leN (l.drop (j + 1)) := by rw [drop_getD hj, leN]
theorem mod_step (x a : Nat) : (x + 256 * (a % ell)) % ell = (x + 256 * a) % ell := by
  rw [Nat.add_mod, Nat.mul_mod_mod, ← Nat.add_mod]
theorem strOfNums_leN {l : List Nat} (hl : l.length = 33) (hb : ∀ b ∈ l, b < 256) (hlt : leN l < ell) : strOfNums ((l.take 32).map fun (n : Nat) => (n : Int)) = toS (leN l) := by
  apply bl_inj
  rw [bl_strOfNums _ (fun b h => hb b (List.mem_of_mem_take h)), bl_toS, ← leN_cons0 hl hlt]
  have := byN_leN (l := l.take 32) (fun b h => hb b (List.mem_of_mem_take h))
  rw [List.length_take, hl] at this
  exact this.symm
set_option maxRecDepth 100000 in
set_option maxHeartbeats 4000000 in
theorem mod_any (v : Value) (l : List Nat) (row : Option Nat) (w : World) (ho : Own w 3 1 v l.length (cellsI l) row) (h32 : 32 ≤ l.length) (h100 : l.length ≤ 100) (hb : ∀ b ∈ l, b < 256) :
    Calls Tryd.prog 19 #[v] w fun e w' => e = .returned (.string (toS (leN l % ell))) ∧ Touch [] w w' := by
  have Hown := Lib.hid ho
  obtain ⟨g, off, c, rfl, hrow, hg, hnc, hcm, _, _⟩ := ho.cell1 (by omega)
  have hcm' : c ≤ 9223372036854775807 := hcm
  have Hb := Lib.hid hb
  clear ho hb hcm
  obtain ⟨n, hn⟩ : ∃ n, n = l.length := ⟨_, rfl⟩
  have Hn := Lib.hid hn
  rw [← hn] at hnc h32 h100 Hown
  rw [← hn]
  clear hn hrow
  have hmk := make_33
  go_enter Tryd.func19, Tryd.ntmps19
  go_wp2_with fail
  clear hmk
  have hst := NewI.sc_made w w (Touch.refl _ _) (List.replicate 33 0) (by simp) (by simp)
  have HST := Lib.hid hst
  clear hst
  go_loopw [3, 4] (fun vr vi wr => ∃ (k : Nat) (r : List Nat), k ≤ n ∧ vi = .int .i64 ((k : Int) - 1) ∧ NewI w wr vr r ∧ r.length = 33 ∧ (∀ b ∈ r, b < 256) ∧ leN r = leN (l.drop k) % ell) (fun _ vi _ => (intOf vi + 1).toNat)
  case atStart => exact ⟨n, List.replicate 33 0, by omega, rfl, HST.out, by simp, by simp, by rw [List.drop_of_length_le (by rw [Hn.out]; omega), sc_leN_zeros]; rfl⟩
  case round =>
    clear HST
    obtain ⟨k, r, hk, rfl, hr, hrl, hrb, hrv⟩ := hrel
    obtain ⟨gr, offr, cr, rfl, hgr, hncr, hcmr, _, _⟩ := hr.cells (by omega)
    have Hr := Lib.hid hr
    have Hrl := Lib.hid hrl
    have Hrb := Lib.hid hrb
    have Hrv := Lib.hid hrv
    rw [hrl] at hncr
    rw [hrl]
    have hcmr' : cr ≤ 9223372036854775807 := hcmr
    clear hr hrb hrv hrl hcmr
    rcases k with _ | j
    · rw [show (((0 : Nat) : Int) - 1) = -1 by omega]
      go_wp2_with fail
      rename World => wo
      have hu0 := Lib.hid (show NewU wo (wo.alloc (.cells #[] 5)) (.slice (some ⟨wo.heap.size, 0, none⟩) 0 0) [] from ⟨none, Own.nil _ _ _ _, (Touch.refl _ _).alloc _, .refl _ _⟩)
      go_loopw [6, 7] (fun vb vi wx => ∃ (i : Nat), i ≤ 32 ∧ vi = .int .i64 i ∧ NewU wo wx vb (r.take i)) (fun _ vi _ => 32 - (intOf vi).toNat)
      case atStart => exact ⟨0, by omega, rfl, hu0.out⟩
      case round =>
        clear hu0
        obtain ⟨i, hi, rfl, hb⟩ := hrel
        obtain ⟨Ab, cb, rfl, _⟩ := hb.shape
        have hlen : (r.take i).length = i := by rw [List.length_take, Hrl.out]; omega
        have HB := Lib.hid hb
        clear hb
        by_cases hi32 : i < 32
        · obtain ⟨rr, hown⟩ := (Hr.out.more HB.out.touch).own
          have hrl := Hrl.out
          rw [hrl] at hown
          have hcell := hown.sc_cellAt (by omega) i _ (cellsI_at (by omega))
          clear hown hrl
          have hxl := sc_getD_lt Hrb.out i
          have hsn := Lib.hid (sc_take_snoc (l := r) (k := i) (by rw [Hrl.out]; omega))
          obtain ⟨x, hx⟩ : ∃ x, x = r.getD i 0 := ⟨_, rfl⟩
          rw [← hx] at hcell hxl hsn
          clear hx
          obtain ⟨L, hL⟩ : ∃ L, L = r.take i := ⟨_, rfl⟩
          rw [← hL] at hlen HB hsn ⊢
          clear hL
          go_wp2_with (at_builtin; refine wpList_append_byte wo _ (.tmp 36) (.tmp 42) 62 Tryd.underlying62 rfl rfl HB.out (by omega) x _ rfl rfl ?_)
          intro A2 c2 w2 h2
          have H2 := Lib.hid h2
          clear h2
          go_wp2_with fail
          go_roundw
          case rel => exact ⟨i + 1, by omega, by go_num, by rw [hsn.out]; exact H2.out⟩
          case measure => simp [intOf]; omega
        · obtain rfl : i = 32 := by omega
          obtain ⟨g2, o2, c2, hv2, _, _, _, _, hcx⟩ := HB.out.cells (by rw [hlen]; omega)
          injection hv2 with ha _ hcc
          subst ha; subst hcc
          have hconv := run_convert_bytes_arg (P := Tryd.prog) wr 62 5 Tryd.underlying62 Tryd.underlying5 g2 o2 (r.take 32).length cb ((r.take 32).map fun (n : Nat) => (n : Int)) (by simp) (fun i hi => by
            rw [hcx i hi, sc_getD_map_int]) 9 Tryd.underlying9
          have hlt : leN r < ell := by rw [Hrv.out]; exact Nat.mod_lt _ (by decide)
          rw [show strOfNums ((r.take 32).map fun (n : Nat) => (n : Int)) = _ from strOfNums_leN Hrl.out Hrb.out hlt] at hconv
          rw [hlen] at hconv HB
          rw [hlen]
          clear hcx hlt hlen
          have Hfin := Lib.hid (show leN r = leN l % ell by rw [Hrv.out, List.drop_zero])
          go_wp2_with fail
          go_ret
          exact ⟨ret_eq (by rw [Hfin.out]; rfl), Hr.out.touch.trans HB.out.touch⟩
    · rw [show (((j + 1 : Nat) : Int) - 1) = (j : Int) by omega]
      have hcell := (Hown.out.touch Hr.out.touch (by simp)).sc_cellAt (by omega) j _ (cellsI_at (by rw [← Hn.out]; omega))
      have hxl := sc_getD_lt Hb.out j
      have hdn := Lib.hid (drop_num (l := l) (j := j) (by rw [← Hn.out]; omega))
      obtain ⟨x, hx⟩ : ∃ x, x = l.getD j 0 := ⟨_, rfl⟩
      rw [← hx] at hcell hxl hdn
      clear hx
      obtain ⟨rr, hown⟩ := Hr.out.own
      rw [Hrl.out] at hown
      have hpre := hown.sc_pre (m := 32) (by omega) (by omega)
      have e1 : (cellsI r).take 32 = cellsI (r.take 32) := by simp [cellsI]
      have e2 : (r.take 32).length = 32 := by rw [List.length_take, Hrl.out]; omega
      rw [e1] at hpre
      have Hpre := Lib.hid hpre
      have He2 := Lib.hid e2
      clear hpre hown e1 e2
      go_wp2_with (at_builtin; refine sc_wpList_append_ints wr _ (.tmp 21) (.tmp 23) 48 Tryd.underlying48 rfl rfl (v := .slice (some ⟨wr.heap.size, 0, none⟩) 1 1) (l := [x]) (NewI.sc_made wr wr (Touch.refl _ _) [x] (by simp) (by simp)) (by simp) (r.take 32) (by rw [He2.out]; omega) (xv := .slice (some ⟨gr, offr, none⟩) 32 cr) (rx := rr) (by rw [He2.out]; exact Hpre.out.alloc _) rfl rfl ?_)
      intro A2 c2 w2 h2
      have hmin : min 32 r.length + 1 = 33 := by rw [Hrl.out]; rfl
      rw [hmin] at h2
      rw [hmin]
      clear hmin
      have hl2 : (x :: r.take 32).length = 33 := by rw [List.length_cons, He2.out]
      have hb2 : ∀ b ∈ x :: r.take 32, b < 256 := by
        intro b hb
        rcases List.mem_cons.1 hb with hb | hb
        · rw [hb]; exact hxl
        · exact Hrb.out b (List.mem_of_mem_take hb)
      have hlt : leN r < ell := by rw [Hrv.out]; exact Nat.mod_lt _ (by decide)
      have hv2 : leN (x :: r.take 32) % ell = leN (l.drop j) % ell := by
        rw [leN, leN_cons0 Hrl.out hlt, Hrv.out, hdn.out, mod_step]
      have Hr2 := Lib.hid (h2.before Hr.out.touch)
      have Hl2 := Lib.hid hl2
      have Hb2 := Lib.hid hb2
      have Hv2 := Lib.hid hv2
      obtain ⟨r2, hr2⟩ : ∃ r2, r2 = x :: r.take 32 := ⟨_, rfl⟩
      rw [← hr2] at Hr2 Hl2 Hb2 Hv2
      clear hv2 hlt hb2 hl2 h2 hr2 hdn hxl hcell Hpre He2
      clear Hr Hrl Hrb Hrv
      go_wp2_with fail
      go_loopg [3] (leN r2) (fun d vr wx => ∃ (q : List Nat), leN q = d ∧ NewI w wx vr q ∧ q.length = 33 ∧ (∀ b ∈ q, b < 256) ∧ leN q % ell = leN (l.drop j) % ell)
      case atStart => exact ⟨r2, rfl, Hr2.out, Hl2.out, Hb2.out, Hv2.out⟩
      case round =>
        clear Hr2 Hl2 Hb2 Hv2
        obtain ⟨q, rfl, hq, hql, hqb, hqv⟩ := hrel
        obtain ⟨Aq, cq, rfl, _⟩ := hq.shape
        obtain ⟨rq, hqo⟩ := hq.own
        have hqo2 := Lib.hid hqo
        have Hq := Lib.hid hq
        have Hql := Lib.hid hql
        have Hqb := Lib.hid hqb
        have Hqv := Lib.hid hqv
        clear hq hql hqb hqv hqo
        by_cases hlt : leN q < ell
        · have hbel : ∀ W, W = wr → Calls Tryd.prog 48 #[.slice Aq q.length cq] W fun e w' => e = .returned (.bool true) ∧ W = w' := by
            rintro W rfl
            have := below_any _ q rq W hqo2.out (by rw [Hql.out]; omega) (by rw [Hql.out]; omega) Hqb.out
            rwa [decide_eq_true hlt] at this
          have Hlt := Lib.hid hlt
          clear hlt
          go_wp2_with fail
          refine (hbel _ rfl).mono ?_
          rintro e wz ⟨rfl, rfl⟩
          clear hbel
          go_wp2_with fail
          go_roundw
          case rel => exact ⟨j, q, by omega, rfl, Hq.out, Hql.out, Hqb.out, by rw [← Hqv.out, Nat.mod_eq_of_lt Hlt.out]⟩
          case measure => simp [intOf]
        · have hbel : ∀ W, W = wr → Calls Tryd.prog 48 #[.slice Aq q.length cq] W fun e w' => e = .returned (.bool false) ∧ W = w' := by
            rintro W rfl
            have := below_any _ q rq W hqo2.out (by rw [Hql.out]; omega) (by rw [Hql.out]; omega) Hqb.out
            rwa [decide_eq_false hlt] at this
          have Hge := Lib.hid (show ell ≤ leN q by omega)
          clear hlt
          go_wp2_with fail
          refine (hbel _ rfl).mono ?_
          rintro e wz ⟨rfl, rfl⟩
          clear hbel
          go_wp2_with fail
          refine (less_any _ q rq _ hqo2.out (by rw [Hql.out]; omega) (by rw [Hql.out]; omega) Hqb.out Hge.out).mono ?_
          rintro e wz ⟨v', l', rfl, hn', hl', hb', hv'⟩
          have H1 := Lib.hid (hn'.before Hq.out.touch)
          have H2 := Lib.hid hl'
          have H3 := Lib.hid hb'
          have H4 := Lib.hid hv'
          clear hn' hl' hb' hv'
          go_wp2_with fail
          go_roundg (leN l')
          case measure => have := H4.out; have h0 : 0 < ell := by decide
                          omega
          case rel => exact ⟨l', rfl, H1.out, by rw [H2.out, Hql.out], H3.out, by rw [← Hqv.out, ← H4.out, Nat.add_mod_right]⟩
/-! RefSe -/
theorem leN_set {l : List Nat} {k : Nat} (hk : k < l.length) (x : Nat) : leN (l.set k x) + 256 ^ k * l.getD k 0 = leN l + 256 ^ k * x := by
  induction l generalizing k with
  | nil => simp at hk
  | cons y l ih =>
    cases k with
    | zero => simp [leN, List.getD]; omega
    | succ k =>
      have h := ih (k := k) (by simpa using hk)
      have e : (y :: l).getD (k + 1) 0 = l.getD k 0 := by simp [List.getD]
      rw [List.set_cons_succ, leN, leN, e, Nat.pow_succ]
      grind
theorem sc_getN_set_self {l : List Nat} {k : Nat} (hk : k < l.length) (x : Nat) : (l.set k x).getD k 0 = x := by simp [List.getD, hk]
theorem getN_set_ne {l : List Nat} {k j : Nat} (h : j ≠ k) (x : Nat) : (l.set k x).getD j 0 = l.getD j 0 := by
  simp [List.getD, List.getElem?_set_ne (Ne.symm h)]
/-- A product more in its place. -/
theorem mac_num {tl Y : List Nat} {i j x V : Nat} (hl : tl.length = 65) (hY : Y.length = 32) (hi : i < 32) (hj : j < 32)
    (hv : leN tl = V + 256 ^ i * x * leN (Y.take j)) :
    leN (tl.set (i + j) (tl.getD (i + j) 0 + x * Y.getD j 0)) = V + 256 ^ i * x * leN (Y.take (j + 1)) := by
  have h1 := leN_set (l := tl) (k := i + j) (by omega) (tl.getD (i + j) 0 + x * Y.getD j 0)
  rw [leN_take_succ (by omega)]
  rw [Nat.pow_add] at h1
  generalize 256 ^ i = P at *
  generalize 256 ^ j = Q at *
  generalize tl.getD (i + j) 0 = t at *
  generalize Y.getD j 0 = y at *
  grind
theorem mac_bound {tl : List Nat} {k x y M : Nat} (hk : k < tl.length) (hb : ∀ j, tl.getD j 0 ≤ M) (hx : x * y ≤ 65025) : ∀ j, (tl.set k (tl.getD k 0 + x * y)).getD j 0 ≤ M + 65025 := by
  intro j
  have h1 := hb j
  have h2 := hb k
  by_cases hjk : j = k
  · subst hjk; rw [sc_getN_set_self hk]; omega
  · rw [getN_set_ne hjk]; omega
/-- What is carried over. -/
structure Car (tl : List Nat) (k V : Nat) : Prop where
  len : tl.length = 65
  val : leN tl = V
  dig : ∀ j, j < k → tl.getD j 0 < 256
  here : tl.getD k 0 ≤ 133171710
  far : ∀ j, k < j → tl.getD j 0 ≤ 66585855
theorem Car.step {tl : List Nat} {k V x y : Nat} (h : Car tl k V) (hk : k < 64) (hx : x = tl.getD k 0) (hy : y = tl.getD (k + 1) 0) : Car ((tl.set (k + 1) (y + x / 256)).set k (x % 256)) (k + 1) V := by
  have hl := h.len
  have h1 := h.here
  have h2 := h.far (k + 1) (by omega)
  rw [← hx] at h1
  rw [← hy] at h2
  refine ⟨by simp [hl], ?_, ?_, ?_, ?_⟩
  · have e1 := leN_set (l := tl) (k := k + 1) (by omega) (y + x / 256)
    have e2 := leN_set (l := tl.set (k + 1) (y + x / 256)) (k := k) (by simp; omega) (x % 256)
    rw [getN_set_ne (by omega), ← hx] at e2
    rw [← hy, Nat.pow_succ] at e1
    rw [← h.val]
    have e4 : x = x % 256 + 256 * (x / 256) := by omega
    generalize x / 256 = q at *
    generalize x % 256 = m at *
    generalize 256 ^ k = P at *
    subst e4
    grind
  · intro j hj
    by_cases hjk : j = k
    · subst hjk; rw [sc_getN_set_self (by simp; omega)]; omega
    · rw [getN_set_ne hjk, getN_set_ne (by omega)]; exact h.dig j (by omega)
  · rw [getN_set_ne (by omega), sc_getN_set_self (by omega)]; omega
  · intro j hj
    rw [getN_set_ne (by omega), getN_set_ne (by omega)]; exact h.far j (by omega)
theorem Car.last {tl : List Nat} {V : Nat} (h : Car tl 64 V) (hV : V < 256 ^ 64) : ∀ b ∈ tl, b < 256 := by
  have hl := h.len
  have h0 : tl.getD 64 0 = 0 := by
    have h1 := leN_take_succ (l := tl) (k := 64) (by omega)
    rw [List.take_of_length_le (by omega), h.val] at h1
    apply Classical.byContradiction
    intro hne
    have h2 : 256 ^ 64 * 1 ≤ 256 ^ 64 * tl.getD 64 0 := Nat.mul_le_mul_left _ (by omega)
    omega
  intro b hb
  obtain ⟨j, hj, rfl⟩ := List.getElem_of_mem hb
  have hg : tl[j] = tl.getD j 0 := by simp [List.getD, hj]
  rw [hg]
  by_cases hj64 : j = 64
  · subst hj64; rw [h0]; omega
  · exact h.dig j (by omega)
theorem sc_low_lt (s : ByteArray) : lowS s < 256 ^ 32 := by
  unfold lowS
  have h := leN_lt (l := (bl s).take 32) (fun b hb => bl_lt s b (List.mem_of_mem_take hb))
  refine Nat.lt_of_lt_of_le h (Nat.pow_le_pow_right (by omega) (by rw [List.length_take]; omega))
theorem prod_lt (a b c : ByteArray) : lowS a * lowS b + lowS c < 256 ^ 64 := by
  have h1 := sc_low_lt a
  have h2 := sc_low_lt b
  have h3 := sc_low_lt c
  have h4 : lowS a * lowS b ≤ (256 ^ 32 - 1) * (256 ^ 32 - 1) := Nat.mul_le_mul (by omega) (by omega)
  have e : (256 : Nat) ^ 64 = 256 ^ 32 * 256 ^ 32 := by rw [← Nat.pow_add]
  have e2 : (256 : Nat) ^ 32 = 115792089237316195423570985008687907853269984665640564039457584007913129639936 := by decide
  rw [e2] at h3 h4 e
  rw [e]
  omega
theorem digits_32 (s : ByteArray) (w : World) : Calls Tryd.prog 18 #[.string s, .int .i64 32] w (DigitsPost (sc_padN (bl s) 32) w) := sc_digits_any s 32 (by omega) w
theorem digits_65 (s : ByteArray) (w : World) : Calls Tryd.prog 18 #[.string s, .int .i64 65] w (DigitsPost (sc_padN (bl s) 65) w) := sc_digits_any s 65 (by omega) w
theorem mul_small {x y : Nat} (hx : x < 256) (hy : y < 256) : x * y ≤ 65025 ∧ (0 : Int) ≤ (x : Int) * (y : Int) ∧ (x : Int) * (y : Int) ≤ 65025 := by
  have h : x * y ≤ 65025 := Nat.mul_le_mul (show x ≤ 255 by omega) (show y ≤ 255 by omega)
  rw [← Int.natCast_mul]
  omega
theorem bnd_next {A C D i t : Nat} (hD : D * 32 = C) (h : t ≤ A + C * i + D * 32) : t ≤ A + C * (i + 1) := by
  subst hD
  rw [Nat.mul_add (D * 32) i 1, Nat.mul_one]
  omega
theorem bnd_step {A C D i j t : Nat} (h : t ≤ A + C * i + D * j + D) : t ≤ A + C * i + D * (j + 1) := by
  rw [Nat.mul_succ]
  omega
def MRel (a b c : ByteArray) (w : World) (vx vy vt : Value) (wx : World) : Prop :=
  ∃ w1 w2, NewI w w1 vx (sc_padN (bl a) 32) ∧ NewI w1 w2 vy (sc_padN (bl b) 32) ∧ NewI w2 wx vt (sc_padN (bl (cutT c 32)) 65)
set_option maxRecDepth 100000 in
set_option maxHeartbeats 4000000 in
theorem refMulAdd_any (a b c : ByteArray) (w : World) :
    Calls Tryd.prog 6 #[.string a, .string b, .string c] w fun e w' => e = .returned (.string (toS ((lowS a * lowS b + lowS c) % ell))) ∧ Touch [] w w' := by
  have hcl := Lib.hid (fun (h : c.size ≤ 32) => cutT_le h)
  have hcg := Lib.hid (fun (h : 32 < c.size) => cutT_gt h)
  go_enter Tryd.func6, Tryd.ntmps6
  go_wp2_with fail
  go_upto_region 1 with fail
  go_cut [7, 8, 9] (fun vx vy vt wx => MRel a b c w vx vy vt wx)
  case first =>
    by_cases h32 : c.size ≤ 32
    · have he := Lib.hid (hcl.out h32)
      have h32' : (c.size : Int) ≤ 32 := by omega
      have hsl : ∀ W : World, (Instr.slice 9 (.string c) none (some (.int .i64 (c.size : Int))) none).run Tryd.prog W = .ok (.string c) W := fun W => by
        rw [run_slice_string_to_if _ 9 c .i64 _ Tryd.underlying9]
        simp
      have hmn : ∀ (W : World) ts ty, (Builtin.min_ ts ty #[.int .i64 (c.size : Int), .int .i64 32]).run Tryd.prog W = .ok (.int .i64 (c.size : Int)) W := fun W ts ty => by
        rw [run_min_int2, if_neg (by omega)]
      clear hcl hcg
      go_region_held3 (fun _ => True) (first | trivial) (first | (go_at_call 18; (with_reducible_and_instances refine (digits_32 a _).mono ?_); rintro e w1 ⟨v1, rfl, hn1⟩) | (go_at_call 18; (with_reducible_and_instances refine (digits_32 b _).mono ?_); rintro e w2 ⟨v2, rfl, hn2⟩) | (go_at_call 18; (with_reducible_and_instances refine (digits_65 c _).mono ?_); rintro e w3 ⟨v3, rfl, hn3⟩))
      all_goals
        go_wp2_with fail
        go_meet
        exact ⟨w1, w2, hn1.before (Touch.refl [] w).drew, hn2, by rw [he.out]; exact hn3⟩
    · have he := Lib.hid (hcg.out (by omega))
      have hsl : ∀ W : World, (Instr.slice 9 (.string c) none (some (.int .i64 32)) none).run Tryd.prog W = .ok (.string (cutT c 32)) W := fun W => by
        rw [run_slice_string_to_if _ 9 c .i64 _ Tryd.underlying9, if_pos (by omega), ← he.out]
        rfl
      have hmn : ∀ (W : World) ts ty, (Builtin.min_ ts ty #[.int .i64 (c.size : Int), .int .i64 32]).run Tryd.prog W = .ok (.int .i64 32) W := fun W ts ty => by
        rw [run_min_int2, if_pos (by omega)]
      clear hcl hcg h32
      go_region_held3 (fun _ => True) (first | trivial) (first | (go_at_call 18; (with_reducible_and_instances refine (digits_32 a _).mono ?_); rintro e w1 ⟨v1, rfl, hn1⟩) | (go_at_call 18; (with_reducible_and_instances refine (digits_32 b _).mono ?_); rintro e w2 ⟨v2, rfl, hn2⟩) | (go_at_call 18; (with_reducible_and_instances refine (digits_65 (cutT c 32) _).mono ?_); rintro e w3 ⟨v3, rfl, hn3⟩))
      all_goals
        go_wp2_with fail
        go_meet
        exact ⟨w1, w2, hn1.before (Touch.refl [] w).drew, hn2, hn3⟩
  case rest =>
    obtain ⟨w1, w2, hx, hy, ht⟩ := hcut
    clear hcl hcg
    have lx : (sc_padN (bl a) 32).length = 32 := sc_padN_len _ _
    have ly : (sc_padN (bl b) 32).length = 32 := sc_padN_len _ _
    have lt : (sc_padN (bl (cutT c 32)) 65).length = 65 := sc_padN_len _ _
    have bx := Lib.hid (padN_lt (bl_lt a) 32)
    have by' := Lib.hid (padN_lt (bl_lt b) 32)
    have bt := Lib.hid (padN_lt (bl_lt (cutT c 32)) 65)
    have nx := Lib.hid (show leN (sc_padN (bl a) 32) = lowS a from sc_leN_padN _ _)
    have ny := Lib.hid (show leN (sc_padN (bl b) 32) = lowS b from sc_leN_padN _ _)
    have nt := Lib.hid (show leN (sc_padN (bl (cutT c 32)) 65) = lowS c by rw [sc_leN_padN, bl_cutT, List.take_take]; rfl)
    have hV := Lib.hid (prod_lt a b c)
    obtain ⟨X, hX⟩ : ∃ X, X = sc_padN (bl a) 32 := ⟨_, rfl⟩
    obtain ⟨Y, hY⟩ : ∃ Y, Y = sc_padN (bl b) 32 := ⟨_, rfl⟩
    obtain ⟨T, hT⟩ : ∃ T, T = sc_padN (bl (cutT c 32)) 65 := ⟨_, rfl⟩
    rw [← hX] at hx lx bx nx
    rw [← hY] at hy ly by' ny
    rw [← hT] at ht lt bt nt
    clear hX hY hT
    obtain ⟨gx, ox, cx, rfl, _, hcx1, hcx2, _, _⟩ := hx.cells (by omega)
    obtain ⟨gy, oy, cy, rfl, _, hcy1, hcy2, _, _⟩ := hy.cells (by omega)
    obtain ⟨gt, ot, ct, rfl, hgt, hct1, hct2, _, _⟩ := ht.cells (by omega)
    unfold maxLen at hcx2 hcy2 hct2
    rw [lx] at hx hcx1
    rw [ly] at hy hcy1
    rw [lt] at ht hct1
    rw [lx, ly, lt]
    have Hx := Lib.hid hx
    have Hy := Lib.hid hy
    have Ht := Lib.hid ht
    have Lx := Lib.hid lx
    have Ly := Lib.hid ly
    have Lt := Lib.hid lt
    clear hx hy ht lx ly lt
    go_wp2_with fail
    go_loopw [10] (fun vi wx => ∃ (i : Nat) (tl : List Nat), i ≤ 32 ∧ vi = .int .i64 i ∧ tl.length = 65 ∧ NewI w2 wx (.slice (some ⟨gt, ot, none⟩) 65 ct) tl ∧ (∀ j, tl.getD j 0 ≤ 255 + 2080800 * i) ∧ leN tl = lowS c + leN (X.take i) * lowS b) (fun vi _ => 32 - (intOf vi).toNat)
    case atStart => exact ⟨0, T, by omega, rfl, Lt.out, Ht.out, fun j => by have := sc_getD_lt bt.out j; omega, by rw [nt.out]; simp [leN]⟩
    case round =>
      clear Ht Lt bt nt
      obtain ⟨i, tl, hi, rfl, htl, ht, hb, hv⟩ := hrel
      have Htl := Lib.hid htl
      have Ht := Lib.hid ht
      have Hb := Lib.hid hb
      have Hv := Lib.hid hv
      clear htl ht hb hv
      by_cases hi32 : i < 32
      · have hxl := sc_getD_lt bx.out i
        have hsx := Lib.hid (leN_take_succ (l := X) (k := i) (by rw [Lx.out]; exact hi32))
        obtain ⟨rx, hox⟩ := Hx.out.own
        have HX := Lib.hid (fun (W : World) (h : Touch [] w1 W) => ((by rw [Lx.out] at hox; exact hox : Own w1 3 1 (.slice (some ⟨gx, ox, none⟩) 32 cx) 32 (cellsI X) rx).touch h (by simp)).sc_cellAt (by omega) i _ (cellsI_at (by rw [Lx.out]; exact hi32)))
        obtain ⟨x, hx⟩ : ∃ x, x = X.getD i 0 := ⟨_, rfl⟩
        obtain ⟨V, hV0⟩ : ∃ V, V = lowS c + leN (X.take i) * lowS b := ⟨_, rfl⟩
        have HV0 := Lib.hid hV0
        rw [← hx] at HX hxl hsx
        rw [← hV0] at Hv
        clear hx hox hV0
        have hdi : decide ((i : Int) < 32) = true := decide_eq_true (by omega)
        go_wp2_with fail
        go_loopw [11] (fun vj wx => ∃ (j : Nat) (tl : List Nat), j ≤ 32 ∧ vj = .int .i64 j ∧ tl.length = 65 ∧ NewI w2 wx (.slice (some ⟨gt, ot, none⟩) 65 ct) tl ∧ (∀ q, tl.getD q 0 ≤ 255 + 2080800 * i + 65025 * j) ∧ leN tl = V + 256 ^ i * x * leN (Y.take j)) (fun vj _ => 32 - (intOf vj).toNat)
        case atStart => exact ⟨0, tl, by omega, rfl, Htl.out, Ht.out, fun q => by have := Hb.out q; omega, by rw [Hv.out]; simp [leN]⟩
        case round =>
          clear Htl Ht Hb Hv
          obtain ⟨j, tl, hj, rfl, htl, ht, hb, hv⟩ := hrel
          have Htl := Lib.hid htl
          have Ht := Lib.hid ht
          have Hb := Lib.hid hb
          have Hv := Lib.hid hv
          clear htl ht hb hv
          by_cases hj32 : j < 32
          · have hyl := sc_getD_lt by'.out j
            have hcellx := HX.out wr (Hy.out.touch.trans Ht.out.touch)
            obtain ⟨ry, hoy⟩ := Hy.out.own
            rw [Ly.out] at hoy
            have hcelly := (hoy.touch Ht.out.touch (by simp)).sc_cellAt (by omega) j _ (cellsI_at (by rw [Ly.out]; exact hj32))
            have hcellt := Ht.out.cells (by rw [Htl.out]; omega)
            obtain ⟨_, _, _, hvt, _, _, _, hft, hct⟩ := hcellt
            injection hvt with ha hvl hcc
            clear hvl
            injection ha with ha
            injection ha with h1 h2
            subst h1; subst h2; subst hcc
            have hcellt := hct (i + j) (by rw [Htl.out]; omega)
            have hfr := hft (ot + (i + j))
            clear hct hft hoy
            have htb := Hb.out (i + j)
            have hmac := Lib.hid (mac_num (Htl.out) (Ly.out) hi32 hj32 Hv.out)
            have hmb := Lib.hid (fun h => mac_bound (tl := tl) (k := i + j) (x := x) (y := Y.getD j 0) (M := 255 + 2080800 * i + 65025 * j) (by rw [Htl.out]; omega) Hb.out h)
            obtain ⟨y, hy⟩ : ∃ y, y = Y.getD j 0 := ⟨_, rfl⟩
            obtain ⟨t, ht⟩ : ∃ t, t = tl.getD (i + j) 0 := ⟨_, rfl⟩
            rw [← hy] at hyl hcelly hmac hmb
            rw [← ht] at hcellt htb hmac hmb
            clear hy ht
            obtain ⟨hxy, hxy0, hxy1⟩ := mul_small hxl hyl
            have htb1 : (t : Int) ≤ 100000000 := by omega
            have Hmb := Lib.hid (hmb.out hxy)
            clear hmb htb hxy
            go_wp2_with fail
            go_region
            go_wp2_with fail
            go_roundw
            case rel =>
              have hcast : (t : Int) + (x : Int) * (y : Int) = ((t + x * y : Nat) : Int) := by rw [Int.natCast_add, Int.natCast_mul]
              rw [hcast]
              have hset := Ht.out
              rw [← Htl.out] at hset
              have hset2 := hset.set (i + j) (t + x * y) (by rw [Htl.out]; omega)
              rw [show (tl.set (i + j) (t + x * y)).length = 65 by rw [List.length_set]; exact Htl.out] at hset2
              first | exact ⟨j + 1, tl.set (i + j) (t + x * y), by omega, by go_num, by rw [List.length_set]; exact Htl.out, hset2.more (Touch.refl _ _).drew, fun q => bnd_step (Hmb.out q), hmac.out⟩ | ((repeat apply Exists.intro); exact ⟨⟨j + 1, tl.set (i + j) (t + x * y), by omega, by go_num, by rw [List.length_set]; exact Htl.out, hset2.more (Touch.refl _ _).drew, fun q => bnd_step (Hmb.out q), hmac.out⟩, rfl⟩)
            case measure => simp [intOf]; omega
          · obtain rfl : j = 32 := by omega
            have hfin := Lib.hid (show leN tl = lowS c + leN (X.take (i + 1)) * lowS b by
              rw [Hv.out, List.take_of_length_le (by rw [Ly.out]; omega), ny.out, HV0.out, hsx.out, Nat.add_mul, Nat.add_assoc])
            go_wp2_with fail
            go_roundw
            case rel => exact ⟨i + 1, tl, by omega, by go_num, Htl.out, Ht.out, fun q => bnd_next (by decide) (Hb.out q), hfin.out⟩
            case measure => simp [intOf]; omega
      · obtain rfl : i = 32 := by omega
        have hstart := Lib.hid (show Car tl 0 (lowS c + lowS a * lowS b) from ⟨Htl.out, by rw [Hv.out, List.take_of_length_le (by rw [Lx.out]; omega), nx.out], fun _ h => by omega, by have := Hb.out 0; omega, fun q _ => by have := Hb.out q; omega⟩)
        clear Hb Hv
        rename World => w5
        go_wp2_with fail
        go_loopw [12] (fun vk wx => ∃ (k : Nat) (tl : List Nat), k ≤ 64 ∧ vk = .int .i64 k ∧ Car tl k (lowS c + lowS a * lowS b) ∧ NewI w2 wx (.slice (some ⟨gt, ot, none⟩) 65 ct) tl) (fun vk _ => 64 - (intOf vk).toNat)
        case atStart => exact ⟨0, tl, by omega, rfl, hstart.out, Ht.out⟩
        case round =>
          clear Htl Ht hstart
          obtain ⟨k, tl, hk, rfl, hC, ht⟩ := hrel
          have HC := Lib.hid hC
          have Ht := Lib.hid ht
          have htl := hC.len
          clear hC ht
          obtain ⟨_, _, _, hvt, _, _, _, hft, hct⟩ := Ht.out.cells (by omega)
          injection hvt with ha hvl hcc
          clear hvl
          injection ha with ha
          injection ha with h1 h2
          subst h1; subst h2; subst hcc
          by_cases hk64 : k < 64
          · have hcell0 := hct k (by omega)
            have hcell1 := hct (k + 1) (by omega)
            have hf0 := hft (ot + k)
            have hf1 := hft (ot + (k + 1))
            have hb0 := HC.out.here
            have hb1 := HC.out.far (k + 1) (by omega)
            have hst := Lib.hid (fun x y => HC.out.step hk64 (x := x) (y := y))
            obtain ⟨x, hx⟩ : ∃ x, x = tl.getD k 0 := ⟨_, rfl⟩
            obtain ⟨y, hy⟩ : ∃ y, y = tl.getD (k + 1) 0 := ⟨_, rfl⟩
            have Hst := Lib.hid (hst.out x y hx hy)
            rw [← hx] at hcell0 hb0
            rw [← hy] at hcell1 hb1
            have Htl := Lib.hid htl
            clear hx hy hst hct hft htl
            go_wp2_with fail
            go_region
            go_wp2_with fail
            go_roundw
            case rel =>
              have hc1 : (y : Int) + (x : Int) / 256 = ((y + x / 256 : Nat) : Int) := by omega
              have hc2 : (x : Int) % 256 = ((x % 256 : Nat) : Int) := by omega
              have hset := Ht.out
              rw [← Htl.out] at hset
              have hset2 := hset.set (k + 1) (y + x / 256) (by rw [Htl.out]; omega)
              have hset3 := hset2.set k (x % 256) (by rw [List.length_set, Htl.out]; omega)
              rw [show ((tl.set (k + 1) (y + x / 256)).set k (x % 256)).length = 65 by rw [List.length_set, List.length_set]; exact Htl.out] at hset3
              have hset4 := hset3.more (Touch.refl _ _).drew
              rw [hc1, hc2]
              first | exact ⟨k + 1, _, by omega, by go_num, Hst.out, hset4⟩ | ((repeat apply Exists.intro); exact ⟨⟨k + 1, _, by omega, by go_num, Hst.out, hset4⟩, rfl⟩)
            case measure => simp [intOf]; omega
          · obtain rfl : k = 64 := by omega
            have hd := Lib.hid (HC.out.last (by rw [Nat.add_comm]; exact hV.out))
            obtain ⟨rt, hot⟩ := Ht.out.own
            have Hot := Lib.hid hot
            have Htl := Lib.hid htl
            clear hct hft hot htl
            go_wp2_with fail
            have hot := Hot.out
            refine (mod_any _ tl rt _ (by rw [Htl.out] at hot ⊢; exact hot) (by rw [Htl.out]; omega) (by rw [Htl.out]; omega) hd.out).mono ?_
            rintro e wz ⟨rfl, hz⟩
            clear hot
            have Hz := Lib.hid hz
            clear hz
            go_wp2_with fail
            go_ret
            exact ⟨ret_eq (by rw [HC.out.val, Nat.add_comm]; rfl), ((Hx.out.touch.trans Hy.out.touch).trans Ht.out.touch).trans Hz.out⟩
end Go.Proofs.YtbgpgbfiadhddaaDoor
