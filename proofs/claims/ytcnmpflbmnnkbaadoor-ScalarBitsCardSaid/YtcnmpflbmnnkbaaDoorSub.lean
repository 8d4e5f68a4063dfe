/- (scalar.number).sub: a difference, and whether it is below. -/
import Derived.Test.YtcnmpflbmnnkbaaDoorBits64
import Derived.StillTailTactics
namespace Go.Proofs.YtcnmpflbmnnkbaaDoor
open Go.RowKit
def numV (l : List Nat) : Value := .agg (cellsN l).toArray
/-- What sub leaves: words r and a borrow u. -/
def SubPost (a b : List Nat) (w : World) (e : Ending) (w' : World) : Prop :=
  ∃ (r : List Nat) (u : Nat), r.length = 4 ∧ Words r ∧ u ≤ 1 ∧ val r + val b = val a + u * 18446744073709551616 ^ 4 ∧ e = .returned (.tuple #[numV r, .bool (decide (0 < u))]) ∧ Touch [] w w'
theorem sub_step {a b r : List Nat} {u k x : Nat} (hk : k < 4) (ha : a.length = 4) (hb : b.length = 4) (hr : r.length = 4) (wa : Words a) (wb : Words b) (hu : u ≤ 1)
    (hd : r.drop k = a.drop k) (hv : val (r.take k) + val (b.take k) = val (a.take k) + u * 18446744073709551616 ^ k)
    (hx : x = (r.getD k 0 + 18446744073709551616 - b.getD k 0 - u) % 18446744073709551616) (u' : Nat) (hu' : u' = if r.getD k 0 < b.getD k 0 + u then 1 else 0) :
    (r.set k x).drop (k + 1) = a.drop (k + 1) ∧ val ((r.set k x).take (k + 1)) + val (b.take (k + 1)) = val (a.take (k + 1)) + u' * 18446744073709551616 ^ (k + 1) := by
  have e0 : r.getD k 0 = a.getD k 0 := by
    have h := congrArg (fun l => l.getD 0 0) hd
    simpa [List.getD] using h
  have e1 : (r.set k x).getD k 0 = x := by simp [List.getD, hr, hk]
  have e2 : (r.set k x).take k = r.take k := by simp [List.take_set_of_le]
  constructor
  · rw [List.drop_set, if_pos (by omega), ← List.drop_drop, ← List.drop_drop, hd]
  · rw [val_take_succ (by rw [List.length_set]; omega), val_take_succ (by omega), val_take_succ (by omega), e1, e2, Nat.pow_succ]
    have h1 := wa.at_ k
    have h2 := wb.at_ k
    rw [e0] at hx hu'
    have h3 : x + b.getD k 0 + u = a.getD k 0 + u' * 18446744073709551616 := by
      rw [hu', hx]
      split <;> omega
    grind
set_option maxRecDepth 100000 in
set_option maxHeartbeats 2000000 in
theorem sub_any (a b : List Nat) (ha : a.length = 4) (hb : b.length = 4) (wa : Words a) (wb : Words b) (w : World) :
    Calls Tryd.prog 31 #[numV a, numV b] w (SubPost a b w) := by
  have Ha := Lib.hid ha
  have Hb := Lib.hid hb
  have Wa := Lib.hid wa
  have Wb := Lib.hid wb
  clear ha hb wa wb
  unfold numV
  go_enter Tryd.func31, Tryd.ntmps31
  go_wp2_with fail
  have hz0 : (cellsN [0, 0, 0, 0]).toArray = #[.int .u64 0, .int .u64 0, .int .u64 0, .int .u64 0] := rfl
  rw [← hz0]
  obtain ⟨w1, hw1⟩ : ∃ w1, w1 = ((w.alloc (.cells (cellsN a).toArray 37)).alloc (.cells (cellsN b).toArray 37)).alloc (.cells (cellsN [0, 0, 0, 0]).toArray 37) := ⟨_, rfl⟩
  have hA : Blk w1 w.heap.size 37 (cellsN a).toArray := by rw [hw1]; exact ((Blk.new _ _ _).alloc _).alloc _
  have hB : Blk w1 (w.heap.size + 1) 37 (cellsN b).toArray := by
    have := (Blk.new (w.alloc (.cells (cellsN a).toArray 37)) 37 (cellsN b).toArray).alloc (.cells (cellsN [0, 0, 0, 0]).toArray 37)
    rw [hw1]; simpa using this
  have hC : Blk w1 (w.heap.size + 1 + 1) 37 (cellsN [0, 0, 0, 0]).toArray := by
    have := Blk.new ((w.alloc (.cells (cellsN a).toArray 37)).alloc (.cells (cellsN b).toArray 37)) 37 (cellsN [0, 0, 0, 0]).toArray
    rw [hw1]; simpa using this
  have hT : Touch [] w w1 := by rw [hw1]; exact (((Touch.refl _ _).alloc _).alloc _).alloc _
  rw [← hw1]
  obtain ⟨ga, hga⟩ : ∃ ga, ga = w.heap.size := ⟨_, rfl⟩
  have Hga := Lib.hid hga
  rw [← hga] at hA hB hC
  rw [← hga]
  clear hw1 hz0 hga
  go_loopw [6, 8] (fun vu vi wr => ∃ (k u : Nat) (r : List Nat), k ≤ 4 ∧ vi = .int .i64 k ∧ vu = .int .u64 (u : Int) ∧ r.length = 4 ∧ Words r ∧ u ≤ 1 ∧ r.drop k = a.drop k ∧ val (r.take k) + val (b.take k) = val (a.take k) + u * 18446744073709551616 ^ k ∧
    Blk wr ga 37 (cellsN r).toArray ∧ Blk wr (ga + 1) 37 (cellsN b).toArray ∧ Blk wr (ga + 1 + 1) 37 (cellsN [0, 0, 0, 0]).toArray ∧ Touch [] w wr) (fun _ vi _ => 4 - (intOf vi).toNat)
  case atStart => exact ⟨0, 0, a, by omega, rfl, rfl, Ha.out, Wa.out, by omega, rfl, by simp [val], hA, hB, hC, hT⟩
  case round =>
    obtain ⟨k, u, r, hk, rfl, rfl, hr, wr', hu, hd, hv, hA', hB', hC', hT'⟩ := hrel
    clear hA hB hC hT
    have Hr := Lib.hid hr
    have Wr := Lib.hid wr'
    have Hd := Lib.hid hd
    have Hv := Lib.hid hv
    have HA := Lib.hid hA'
    have HB := Lib.hid hB'
    have HC := Lib.hid hC'
    have HT := Lib.hid hT'
    clear hr wr' hd hv hA' hB' hC' hT'
    by_cases hk4 : k < 4
    · have hca : wr.cell? ⟨ga, k, none⟩ = some (.int .u64 ((r.getD k 0 : Nat) : Int)) := by
        rw [HA.out.cell, List.getElem?_toArray]; exact cellsN_at (by rw [Hr.out]; exact hk4)
      have hcb : wr.cell? ⟨ga + 1, k, none⟩ = some (.int .u64 ((b.getD k 0 : Nat) : Int)) := by
        rw [HB.out.cell, List.getElem?_toArray]; exact cellsN_at (by rw [Hb.out]; exact hk4)
      have hfr : wr.frozen? ⟨ga, k, none⟩ = false := HA.out.frozen k
      have hstep := sub_step hk4 Ha.out Hb.out Hr.out Wa.out Wb.out hu Hd.out Hv.out rfl _ rfl
      obtain ⟨x, hx⟩ : ∃ x, x = r.getD k 0 := ⟨_, rfl⟩
      obtain ⟨y, hy⟩ : ∃ y, y = b.getD k 0 := ⟨_, rfl⟩
      rw [← hx, ← hy] at hstep
      rw [← hx] at hca
      rw [← hy] at hcb
      have hrun := sub64_run x y u hu
      obtain ⟨u', hu'⟩ : ∃ u', u' = (if x < y + u then 1 else 0 : Nat) := ⟨_, rfl⟩
      have hu1 : u' ≤ 1 := by rw [hu']; split <;> omega
      obtain ⟨z, hz⟩ : ∃ z, z = (x + 18446744073709551616 - y - u) % 18446744073709551616 := ⟨_, rfl⟩
      have hz1 : z < 18446744073709551616 := by rw [hz]; omega
      rw [← hu', ← hz] at hstep
      have hrun' : ∀ w : World, (callFunc 35 #[.int .u64 (x : Int), .int .u64 (y : Int), .int .u64 (u : Int)]).run Tryd.prog w = .ok (.value (.tuple #[.int .u64 (z : Int), .int .u64 (u' : Int)])) w := fun w => by rw [hz, hu']; exact hrun w
      have Hstep := Lib.hid hstep
      clear hrun hu' hz hstep hx hy
      go_wp2_with fail
      go_region
      go_wp2_with fail
      go_roundw
      case rel =>
        have ht : Touch [] w (wr.setCell ⟨ga, k, none⟩ (.int .u64 (z : Int))) := HT.out.setCell (p := ⟨ga, k, none⟩) (.inr (by rw [Hga.out]; exact Nat.le_refl _)) _
        have hA2 := HA.out.set_ k (.int .u64 (z : Int))
        have hset : (cellsN r).toArray.setIfInBounds k (.int .u64 (z : Int)) = (cellsN (r.set k z)).toArray := by rw [← cellsN_set]; simp
        rw [hset] at hA2
        exact ⟨k + 1, u', r.set k z, by omega, by go_num, rfl, by rw [List.length_set]; exact Hr.out, Wr.out.set k hz1, hu1, Hstep.out.1, Hstep.out.2, hA2.drew, (HB.out.far (p := ⟨ga, k, none⟩) (by simp) _).drew, (HC.out.far (p := ⟨ga, k, none⟩) (by simp; omega) _).drew, ht.drew⟩
      case measure => simp [intOf]; omega
    · obtain rfl : k = 4 := by omega
      have hv4 : val r + val b = val a + u * 18446744073709551616 ^ 4 := by
        have h := Hv.out
        rw [List.take_of_length_le (by rw [Hr.out]; omega), List.take_of_length_le (by rw [Hb.out]; omega), List.take_of_length_le (by rw [Ha.out]; omega)] at h
        exact h
      have Hv4 := Lib.hid hv4
      have hr := Hr.out
      obtain ⟨r0, r1, r2, r3, rfl⟩ : ∃ r0 r1 r2 r3, r = [r0, r1, r2, r3] := by
        match r, hr with
        | [r0, r1, r2, r3], _ => exact ⟨r0, r1, r2, r3, rfl⟩
      have c0 : wr.cell? ⟨ga, 0, none⟩ = some (.int .u64 (r0 : Int)) := HA.out.cell 0
      have c1 : wr.cell? ⟨ga, 1, none⟩ = some (.int .u64 (r1 : Int)) := HA.out.cell 1
      have c2 : wr.cell? ⟨ga, 2, none⟩ = some (.int .u64 (r2 : Int)) := HA.out.cell 2
      have c3 : wr.cell? ⟨ga, 3, none⟩ = some (.int .u64 (r3 : Int)) := HA.out.cell 3
      have d0 : wr.cell? ⟨ga + 1 + 1, 0, none⟩ = some (.int .u64 0) := HC.out.cell 0
      have d1 : wr.cell? ⟨ga + 1 + 1, 1, none⟩ = some (.int .u64 0) := HC.out.cell 1
      have d2 : wr.cell? ⟨ga + 1 + 1, 2, none⟩ = some (.int .u64 0) := HC.out.cell 2
      have d3 : wr.cell? ⟨ga + 1 + 1, 3, none⟩ = some (.int .u64 0) := HC.out.cell 3
      have f0 : ∀ j, wr.frozen? ⟨ga + 1 + 1, j, none⟩ = false := fun j => HC.out.frozen j
      clear hr hv4
      go_wp2_with fail
      have hC5 := (((HC.out.set_ 0 (.int .u64 (r0 : Int))).set_ 1 (.int .u64 (r1 : Int))).set_ 2 (.int .u64 (r2 : Int))).set_ 3 (.int .u64 (r3 : Int))
      have hg : ga + 1 + 1 ∈ ([] : List Nat) ∨ w.heap.size ≤ ga + 1 + 1 := .inr (by have := Hga.out; omega)
      have ht5 : Touch [] w _ := (((HT.out.setCell (p := ⟨ga + 1 + 1, 0, none⟩) hg (.int .u64 (r0 : Int))).setCell (p := ⟨ga + 1 + 1, 1, none⟩) hg (.int .u64 (r1 : Int))).setCell (p := ⟨ga + 1 + 1, 2, none⟩) hg (.int .u64 (r2 : Int))).setCell (p := ⟨ga + 1 + 1, 3, none⟩) hg (.int .u64 (r3 : Int))
      obtain ⟨w5, hw5⟩ : ∃ w5, w5 = (((wr.setCell ⟨ga + 1 + 1, 0, none⟩ (.int .u64 (r0 : Int))).setCell ⟨ga + 1 + 1, 1, none⟩ (.int .u64 (r1 : Int))).setCell ⟨ga + 1 + 1, 2, none⟩ (.int .u64 (r2 : Int))).setCell ⟨ga + 1 + 1, 3, none⟩ (.int .u64 (r3 : Int)) := ⟨_, rfl⟩
      rw [← hw5] at hC5 ht5 ⊢
      have e0 : w5.cell? ⟨ga + 1 + 1, 0, none⟩ = some (.int .u64 (r0 : Int)) := hC5.cell 0
      have e1 : w5.cell? ⟨ga + 1 + 1, 1, none⟩ = some (.int .u64 (r1 : Int)) := hC5.cell 1
      have e2 : w5.cell? ⟨ga + 1 + 1, 2, none⟩ = some (.int .u64 (r2 : Int)) := hC5.cell 2
      have e3 : w5.cell? ⟨ga + 1 + 1, 3, none⟩ = some (.int .u64 (r3 : Int)) := hC5.cell 3
      have hfin : SubPost a b w (.returned (.tuple #[.agg #[.int .u64 (r0 : Int), .int .u64 (r1 : Int), .int .u64 (r2 : Int), .int .u64 (r3 : Int)], .bool (decide (0 < u))])) w5 := ⟨[r0, r1, r2, r3], u, rfl, Wr.out, hu, Hv4.out, rfl, ht5⟩
      clear hC5 hw5 c0 c1 c2 c3 d0 d1 d2 d3 f0
      simp [bodyPost, results, Tryd.results31, go_sem, e0, e1, e2, e3]
      exact hfin
end Go.Proofs.YtcnmpflbmnnkbaaDoor
