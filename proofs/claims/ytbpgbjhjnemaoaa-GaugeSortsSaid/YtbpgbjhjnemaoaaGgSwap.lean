/- Ranges that change places: the walk. -/
import Derived.Test.YtbpgbjhjnemaoaaGgRKind
import Derived.Test.YtbpgbjhjnemaoaaGgSort
import Derived.Test.YtbpgbjhjnemaoaaGFlow
import Derived.BigRegion
import Derived.RegionTactic
import Derived.ChangeAlike
import Derived.Deep.LoopGhost
import Derived.Deep.DeepCutAuto
import Derived.Deep.CutBlock
namespace Go.Proofs.Ytbpgbjhjnemaoaa
open Go Go.RowKit
/-- A row of numbers. -/
def Arr (w : World) (g off n : Nat) (d : Nat → Nat) : Prop := ∃ cur, Blk w g 22 cur ∧ off + n ≤ cur.size ∧ (∀ i, i < n → cur[off + i]? = some (.float .f64 (d i))) ∧ ∀ i, i < n → d i < 18446744073709551616
section
variable {w w' : World} {g off n : Nat} {d : Nat → Nat}
theorem Arr.cell (h : Arr w g off n d) {i : Nat} (hi : i < n) : w.cell? ⟨g, off + i, none⟩ = some (.float .f64 (d i)) := by
  obtain ⟨cur, hb, _, hx, _⟩ := h
  exact (hb.cell _).trans (hx i hi)
theorem Arr.free (h : Arr w g off n d) (i : Nat) : w.frozen? ⟨g, i, none⟩ = false := by
  obtain ⟨cur, hb, _⟩ := h
  exact hb.frozen i
theorem Arr.bd (h : Arr w g off n d) {i : Nat} (hi : i < n) : d i < 18446744073709551616 := by
  obtain ⟨cur, _, _, _, hx⟩ := h
  exact hx i hi
theorem Arr.lt (h : Arr w g off n d) : g < w.heap.size := by
  obtain ⟨cur, hb, _⟩ := h
  exact hb.lt
theorem Arr.touch (h : Arr w g off n d) (ht : Touch [] w w') : Arr w' g off n d := by
  obtain ⟨cur, hb, h2⟩ := h
  exact ⟨cur, hb.touch ht (by simp), h2⟩
theorem Arr.drewN (h : Arr w g off n d) (k : Nat) : Arr (w.drewN k) g off n d := h
theorem Arr.drew (h : Arr w g off n d) : Arr w.drew g off n d := h
theorem Arr.swp {x y : Nat} (h : Arr w g off n d) (hx : x < n) (hy : y < n) : Arr ((w.setCell ⟨g, off + x, none⟩ (.float .f64 (d y))).setCell ⟨g, off + y, none⟩ (.float .f64 (d x))) g off n (Go.Proofs.Ytbpgbjhjnemaoaa.swp d x y) := by
  obtain ⟨cur, hb, hs, hc, hl⟩ := h
  refine ⟨_, (hb.set_ _ _).set_ _ _, by simpa using hs, fun i hi => ?_, fun i hi => ?_⟩
  · unfold Go.Proofs.Ytbpgbjhjnemaoaa.swp
    by_cases c1 : i = y
    · subst c1
      rw [Array.getElem?_setIfInBounds_self_of_lt (by simp; omega)]
      by_cases c2 : i = x
      · subst c2; rw [if_pos rfl]
      · rw [if_neg c2, if_pos rfl]
    · rw [Array.getElem?_setIfInBounds_ne (by omega)]
      by_cases c2 : i = x
      · subst c2
        rw [Array.getElem?_setIfInBounds_self_of_lt (by omega), if_pos rfl]
      · rw [Array.getElem?_setIfInBounds_ne (by omega), if_neg c2, if_neg c1]
        exact hc i hi
  · unfold Go.Proofs.Ytbpgbjhjnemaoaa.swp
    split
    · exact hl _ hy
    · split
      · exact hl _ hx
      · exact hl _ hi
theorem Arr.set1 (h : Arr w g off n d) (p y : Nat) (hne : p ≠ off + y) (hy : y < n) (u : Value) : (w.setCell ⟨g, p, none⟩ u).cell? ⟨g, off + y, none⟩ = some (.float .f64 (d y)) := by
  obtain ⟨cur, hb, _, hc, _⟩ := h
  rw [(hb.set_ p u).cell, Array.getElem?_setIfInBounds_ne (by omega)]
  exact hc y hy
theorem touch_swp {S : List Nat} {a : World} (h : Touch S a w) (hg : g ∈ S ∨ a.heap.size ≤ g) (p q : Nat) (u v : Value) : Touch S a ((w.setCell ⟨g, p, none⟩ u).setCell ⟨g, q, none⟩ v) :=
  (h.setCell (p := ⟨g, p, none⟩) hg u).setCell (p := ⟨g, q, none⟩) hg v
end
set_option maxRecDepth 100000 in
set_option maxHeartbeats 2000000 in
theorem swapRange_any (g off n c : Nat) (d : Nat → Nat) (x y k : Nat) (cf : Value) (hxy : x + k ≤ y) (hy : y + k ≤ n) (hn : n < 1000000) (wA : World) (h : Arr wA g off n d) :
    Calls Try.prog 45 #[.slice (some ⟨g, off, none⟩) n c, .int .i64 (x : Int), .int .i64 (y : Int), .int .i64 (k : Int), cf] wA fun e w' => e = .returned (.tuple #[]) ∧ Arr w' g off n (swR d x y k) ∧ Touch [g] wA w' := by
  have HA := Lib.hid h
  clear h
  go_enter Try.func45, Try.ntmps45
  go_wp2_with fail
  go_loopw [10] (fun vi wr => ∃ i : Nat, i ≤ k ∧ vi = .int .i64 (i : Int) ∧ Arr wr g off n (swR d x y i) ∧ Touch [g] wA wr) (fun vi _ => k - (intOf vi).toNat)
  case atStart => exact ⟨0, by omega, rfl, by rw [swR_zero]; exact HA.out, Touch.refl _ _⟩
  case round =>
    obtain ⟨i, hi, rfl, ha, ht⟩ := hrel
    clear HA
    by_cases hlt : i < k
    · have m1 : IntKind.i64.wrap ((x : Int) + (i : Int)) = ((x + i : Nat) : Int) := by rw [IntWalk.i64_in _ (by omega)]; omega
      have m2 : IntKind.i64.wrap ((y : Int) + (i : Int)) = ((y + i : Nat) : Int) := by rw [IntWalk.i64_in _ (by omega)]; omega
      have c1 := ha.cell (show x + i < n by omega)
      have c2 := ha.cell (show y + i < n by omega)
      have f1 := ha.free (off + (x + i))
      have f2 := ha.free (off + (y + i))
      have HN := ha.swp (show x + i < n by omega) (show y + i < n by omega)
      rw [swR_succ d x y i (by omega)] at HN
      obtain ⟨p, hp⟩ : ∃ p, p = x + i := ⟨_, rfl⟩
      obtain ⟨q, hq⟩ : ∃ q, q = y + i := ⟨_, rfl⟩
      rw [← hp] at m1 c1 f1 HN
      rw [← hq] at m2 c2 f2 HN
      have hpn : p < n := by omega
      have hqn : q < n := by omega
      have hpq : p < q := by omega
      have d1 := ha.set1 (off + p) q (by omega) hqn (.float .f64 (swR d x y i q))
      obtain ⟨u, hu⟩ : ∃ u, u = swR d x y i p := ⟨_, rfl⟩
      obtain ⟨v, hv⟩ : ∃ v, v = swR d x y i q := ⟨_, rfl⟩
      rw [← hu] at c1 HN
      rw [← hv] at c2 HN d1
      have HN2 := Lib.hid HN
      have HT := Lib.hid ht
      clear ha ht HN hp hq hu hv
      go_wp2_with fail
      go_region
      go_wp2_with fail
      go_roundw
      case rel => exact ⟨i + 1, by omega, by go_num, HN2.out, (touch_swp HT.out (.inl (by simp)) _ _ _ _).drew⟩
      case measure => simp [intOf]; omega
    · obtain rfl : i = k := by omega
      have HT := Lib.hid ht
      have HR := Lib.hid ha
      clear ha ht
      go_wp2_with fail
      go_end0
      exact ⟨rfl, HR.out, HT.out⟩
end Go.Proofs.Ytbpgbjhjnemaoaa
