/- (field.power).of: its exponent, its blocks. -/
import Derived.Test.YtbgpgbfiadhddaaDoorOfE
namespace Go.Proofs.YtbgpgbfiadhddaaDoor
open Go.RowKit
/-- The exponent. -/
def exF (skip : Nat → Bool) : Nat → Nat → Nat
  | 0, e => e
  | k + 1, e => exF skip k (2 * e + if skip k then 0 else 1)
structure PowW (w : World) (gp : Nat) (top : Int) (v : Value) (l r : List Int) (wr : World) : Prop where
  bp : Blk wr gp 89 #[.int .i64 top, v]
  ba : Blk wr (gp + 1) 25 (cellsZ l).toArray
  bz : Blk wr (gp + 2) 25 (cellsZ (List.replicate 16 0)).toArray
  bc : Blk wr (gp + 3) 25 (cellsZ r).toArray
  touch : Touch [] w wr
  new : w.heap.size ≤ gp
theorem PowW.more {w wr w' : World} {gp : Nat} {top : Int} {v : Value} {l r : List Int} (h : PowW w gp top v l r wr) (ht : Touch [] wr w') : PowW w gp top v l r w' :=
  ⟨h.bp.touch ht (by simp), h.ba.touch ht (by simp), h.bz.touch ht (by simp), h.bc.touch ht (by simp), h.touch.trans ht, h.new⟩
theorem PowW.setC {w wr : World} {gp : Nat} {top : Int} {v : Value} {l r : List Int} (h : PowW w gp top v l r wr) (q : List Int) : PowW w gp top v l q (wr.setRow (gp + 3) (cellsZ q).toArray) :=
  ⟨h.bp.frow (by omega) _, h.ba.frow (by omega) _, h.bz.frow (by omega) _, h.bc.setRow _, h.touch.setRowE (.inr (by have := h.new; omega)) _, h.new⟩
theorem PowW.start (w : World) (top : Int) (v : Value) (l : List Int) : PowW w w.heap.size top v l l ((((w.alloc (.cells #[.int .i64 top, v] 89)).alloc (.cells (cellsZ l).toArray 25)).alloc (.cells (cellsZ (List.replicate 16 0)).toArray 25)).alloc (.cells (cellsZ l).toArray 25)) := by
  refine ⟨(((Blk.new _ _ _).alloc _).alloc _).alloc _, ?_, ?_, ?_, ((((Touch.refl _ _).alloc _).alloc _).alloc _).alloc _, Nat.le_refl _⟩
  · have := ((Blk.new (w.alloc (.cells #[.int .i64 top, v] 89)) 25 (cellsZ l).toArray).alloc (.cells (cellsZ (List.replicate 16 0)).toArray 25)).alloc (.cells (cellsZ l).toArray 25)
    simpa using this
  · have := (Blk.new ((w.alloc (.cells #[.int .i64 top, v] 89)).alloc (.cells (cellsZ l).toArray 25)) 25 (cellsZ (List.replicate 16 0)).toArray).alloc (.cells (cellsZ l).toArray 25)
    simpa using this
  · have := Blk.new (((w.alloc (.cells #[.int .i64 top, v] 89)).alloc (.cells (cellsZ l).toArray 25)).alloc (.cells (cellsZ (List.replicate 16 0)).toArray 25)) 25 (cellsZ l).toArray
    simpa using this
theorem mulF_pow (x a b : Nat) : mulF (x ^ a % PP) (x ^ b % PP) = x ^ (a + b) % PP := by
  unfold mulF
  rw [← Nat.mul_mod, Nat.pow_add]
end Go.Proofs.YtbgpgbfiadhddaaDoor
