/- (*field.Elem).carry. -/
import Derived.Test.YtbgpgbfiadhddaaDoorFe
import Derived.Test.YtbgpgbfiadhddaaDoorRows
import Derived.WalkKit
import Derived.WalkLawsBesides
import Derived.Lib.Hide
import Derived.Deep.QuietTactic
import Derived.BigQuiet
import Derived.RegionTactic
import Derived.Deep.DeepCutAuto
import Derived.Deep.CutBlock
import Derived.Deep.LoopGhost
import Derived.Deep.MidRow
import Derived.Deep.WholeRow
import Derived.StillTailTactics
namespace Go.Proofs.YtbgpgbfiadhddaaDoor
open Go.RowKit
def CarryPost (g : Nat) (l : List Int) (w w' : World) : Prop := ∃ r, CarB l r ∧ Blk w' g 25 (cellsZ r).toArray ∧ Touch [g] w w'
set_option maxRecDepth 100000 in
set_option maxHeartbeats 2000000 in
theorem carry_any (g : Nat) (l : List Int) (hl : l.length = 16) (hb : Bnd 2305843009213693952 l) (w : World) (hB : Blk w g 25 (cellsZ l).toArray) :
    Calls Tryd.prog 50 #[.pointer (some ⟨g, 0, none⟩)] w fun e w' => e = .returned (.tuple #[]) ∧ CarryPost g l w w' := by
  have Hl := Lib.hid hl
  have Hb := Lib.hid hb
  have HB := Lib.hid hB
  clear hl hb hB
  go_enter Tryd.func50, Tryd.ntmps50
  go_wp2_with fail
  go_loopw [4] (fun vi wr => ∃ (k : Nat) (r : List Int), k ≤ 16 ∧ vi = .int .i64 k ∧ r.length = 16 ∧ Blk wr g 25 (cellsZ r).toArray ∧ Touch [g] w wr ∧ (k < 16 → CarA l r k) ∧ (k = 16 → CarB l r)) (fun vi _ => 16 - (intOf vi).toNat)
  case atStart => exact ⟨0, l, by omega, rfl, Hl.out, HB.out, Touch.refl _ _, fun _ => CarA.start Hl.out Hb.out, fun h => by omega⟩
  case round =>
    clear HB
    obtain ⟨k, r, hk, rfl, hr, hB, hT, hA, hE⟩ := hrel
    have Hr := Lib.hid hr
    have HB := Lib.hid hB
    have HT := Lib.hid hT
    have HE := Lib.hid hE
    clear hr hB hT hE
    by_cases hk16 : k < 16
    · have HA := Lib.hid (hA hk16)
      clear hA HE
      have hc : wr.cell? ⟨g, k, none⟩ = some (.int .i64 (r.getD k 0)) := by
        rw [HB.out.cell, List.getElem?_toArray]; exact cellsZ_at (by rw [Hr.out]; exact hk16)
      have hlo := HA.out.lo
      have hhi := HA.out.hi
      have hf : wr.frozen? ⟨g, k, none⟩ = false := HB.out.frozen k
      by_cases hk15 : k < 15
      · have hc2 : wr.cell? ⟨g, k + 1, none⟩ = some (.int .i64 (r.getD (k + 1) 0)) := by
          rw [HB.out.cell, List.getElem?_toArray]; exact cellsZ_at (by rw [Hr.out]; omega)
        have hf2 : wr.frozen? ⟨g, k + 1, none⟩ = false := HB.out.frozen (k + 1)
        have hyb : -2305843009213693952 ≤ r.getD (k + 1) 0 ∧ r.getD (k + 1) 0 ≤ 2305843009213693952 := by
          have e := congrArg (fun m => m.getD 0 0) HA.out.drop
          have e2 : r.getD (k + 1) 0 = l.getD (k + 1) 0 := by simpa [List.getD] using e
          rw [e2]; exact Hb.out.at_ (by decide) _
        obtain ⟨hy1, hy2⟩ := hyb
        have hst := fun x y => HA.out.step hk15 Hb.out (x := x) (y := y)
        obtain ⟨x, hx⟩ : ∃ x, x = r.getD k 0 := ⟨_, rfl⟩
        obtain ⟨y, hy⟩ : ∃ y, y = r.getD (k + 1) 0 := ⟨_, rfl⟩
        have HS := Lib.hid (hst x y hx hy)
        rw [← hx] at hc hlo hhi
        rw [← hy] at hc2 hy1 hy2
        clear hst hx hy
        go_wp2_with fail
        go_region
        go_wp2_with fail
        go_region
        go_wp2_with fail
        go_region
        go_wp2_with fail
        go_roundw
        case rel =>
          have e1 : x + 65536 - (x + 65536) / 65536 * 65536 = x % 65536 := by omega
          have e2 : y + ((x + 65536) / 65536 - 1) = y + x / 65536 := by omega
          rw [e1, e2]
          have hB3 := ((HB.out.set_ k (.int .i64 (x + 65536))).set_ k (.int .i64 (x % 65536))).set_ (k + 1) (.int .i64 (y + x / 65536))
          rw [cellsZ_set, cellsZ_set, cellsZ_set, List.set_set] at hB3
          have hg : g ∈ [g] ∨ w.heap.size ≤ g := .inl (by simp)
          have hT3 := ((HT.out.setCell (p := ⟨g, k, none⟩) hg (.int .i64 (x + 65536))).setCell (p := ⟨g, k, none⟩) hg (.int .i64 (x % 65536))).setCell (p := ⟨g, k + 1, none⟩) hg (.int .i64 (y + x / 65536))
          exact ⟨k + 1, _, by omega, by go_num, by simp [Hr.out], hB3.drew.drew.drew, hT3.drew.drew.drew, fun _ => HS.out, fun h => by omega⟩
        case measure => simp [intOf]; omega
      · obtain rfl : k = 15 := by omega
        have hc2 : wr.cell? ⟨g, 0, none⟩ = some (.int .i64 (r.getD 0 0)) := by
          rw [HB.out.cell, List.getElem?_toArray]; exact cellsZ_at (by rw [Hr.out]; omega)
        have hf2 : wr.frozen? ⟨g, 0, none⟩ = false := HB.out.frozen 0
        have hyb := HA.out.dig 0 (by omega)
        obtain ⟨hy1, hy2⟩ := hyb
        have hst := fun x y => HA.out.last (x := x) (y := y)
        obtain ⟨x, hx⟩ : ∃ x, x = r.getD 15 0 := ⟨_, rfl⟩
        obtain ⟨y, hy⟩ : ∃ y, y = r.getD 0 0 := ⟨_, rfl⟩
        have HS := Lib.hid (hst x y hx hy)
        rw [← hx] at hc hlo hhi
        rw [← hy] at hc2 hy1 hy2
        clear hst hx hy
        go_wp2_with fail
        go_region
        go_wp2_with fail
        go_region
        go_wp2_with fail
        go_region
        go_wp2_with fail
        go_roundw
        case rel =>
          have e1 : x + 65536 - (x + 65536) / 65536 * 65536 = x % 65536 := by omega
          have e2 : y + 38 * ((x + 65536) / 65536 - 1) = y + 38 * (x / 65536) := by omega
          rw [e1, e2]
          have hB3 := ((HB.out.set_ 15 (.int .i64 (x + 65536))).set_ 15 (.int .i64 (x % 65536))).set_ 0 (.int .i64 (y + 38 * (x / 65536)))
          rw [cellsZ_set, cellsZ_set, cellsZ_set, List.set_set] at hB3
          have hg : g ∈ [g] ∨ w.heap.size ≤ g := .inl (by simp)
          have hT3 := ((HT.out.setCell (p := ⟨g, 15, none⟩) hg (.int .i64 (x + 65536))).setCell (p := ⟨g, 15, none⟩) hg (.int .i64 (x % 65536))).setCell (p := ⟨g, 0, none⟩) hg (.int .i64 (y + 38 * (x / 65536)))
          exact ⟨16, _, by omega, rfl, by simp [Hr.out], hB3.drew.drew.drew, hT3.drew.drew.drew, fun h => by omega, fun _ => HS.out⟩
        case measure => simp [intOf]
    · obtain rfl : k = 16 := by omega
      have HC := Lib.hid (HE.out rfl)
      clear hA
      go_wp2_with fail
      go_end0
      exact ⟨rfl, r, HC.out, HB.out, HT.out⟩
end Go.Proofs.YtbgpgbfiadhddaaDoor
