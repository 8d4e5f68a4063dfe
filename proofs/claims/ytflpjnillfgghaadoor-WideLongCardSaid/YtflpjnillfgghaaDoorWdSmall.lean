/- wide.big, wide.small. -/
import Derived.Test.YtflpjnillfgghaaDoorWdTurn
import Derived.Test.YtflpjnillfgghaaDoorBytes
namespace Go.Proofs.YtflpjnillfgghaaDoor
open Go Go.RowKit
def cellsB (l : List Nat) : List Value := l.map fun (n : Nat) => .int .u8 (n : Int)
/-- A text of these bytes. -/
def stB (l : List Nat) : ByteArray := strOfNums (l.map fun (n : Nat) => (n : Int))
theorem smS_lt (n : Nat) : ∀ b ∈ smS n, b < 256 := by
  intro b hb
  obtain ⟨j, _, rfl⟩ := List.mem_map.1 hb
  exact Nat.mod_lt _ (by decide)
theorem cellsB_at {l : List Nat} {j : Nat} (h : j < l.length) : (cellsB l)[j]? = some (.int .u8 ((l.getD j 0 : Nat) : Int)) := by simp [cellsB, List.getD, h]
theorem cellsB_set (l : List Nat) (j x : Nat) : (cellsB l).set j (.int .u8 (x : Int)) = cellsB (l.set j x) := by simp [cellsB]
theorem smS_at (n j : Nat) (hj : j < 8) : (smS n).getD j 0 = n / 2 ^ (8 * (7 - j)) % 256 := by simp [smS, List.getD, hj]
theorem small_step {n i : Nat} {cs : List Nat} (hi : i < 8) (hl : cs.length = 8) (hc : ∀ j, j < 8 → 8 - i ≤ j → cs.getD j 0 = n / 2 ^ (8 * (7 - j)) % 256) :
    ∀ j, j < 8 → 8 - (i + 1) ≤ j → (cs.set (7 - i) (n / 2 ^ (8 * i) % 256)).getD j 0 = n / 2 ^ (8 * (7 - j)) % 256 := by
  intro j hj hij
  by_cases h : j = 7 - i
  · subst h
    rw [show 7 - (7 - i) = i by omega]
    simp [List.getD, hl, show 7 - i < 8 by omega]
  · have := hc j hj (by omega)
    rw [← this]
    simp [List.getD, List.getElem?_set_ne (show 7 - i ≠ j by omega)]
set_option maxRecDepth 100000 in
set_option maxHeartbeats 2000000 in
theorem small_any (n : Nat) (w : World) :
    Calls Tryd.prog 13 #[.int .u64 (n : Int)] w fun e w' => e = .returned (.string (stB (smS n))) ∧ Touch [] w w' := by
  go_enter Tryd.func13, Tryd.ntmps13
  go_wp2_with fail
  have hz0 : (cellsB (List.replicate 8 0)).toArray = #[.int .u8 0, .int .u8 0, .int .u8 0, .int .u8 0, .int .u8 0, .int .u8 0, .int .u8 0, .int .u8 0] := rfl
  rw [← hz0]
  have HB0 := Lib.hid (Blk.new w 57 (cellsB (List.replicate 8 0)).toArray)
  have HT0 := Lib.hid ((Touch.refl [] w).alloc (.cells (cellsB (List.replicate 8 0)).toArray 57))
  obtain ⟨g, hg⟩ : ∃ g, g = w.heap.size := ⟨_, rfl⟩
  have Hg := Lib.hid hg
  rw [← hg] at HB0
  rw [← hg]
  generalize w.alloc (.cells (cellsB (List.replicate 8 0)).toArray 57) = w1 at *
  clear hz0 hg
  go_loopw [5] (fun vi wr => ∃ (i : Nat) (cs : List Nat), i ≤ 8 ∧ vi = .int .i64 i ∧ cs.length = 8 ∧ (∀ j, j < 8 → 8 - i ≤ j → cs.getD j 0 = n / 2 ^ (8 * (7 - j)) % 256) ∧
    Blk wr g 57 (cellsB cs).toArray ∧ Touch [] w wr) (fun vi _ => 8 - (intOf vi).toNat)
  case atStart => exact ⟨0, List.replicate 8 0, by omega, rfl, by simp, fun _ _ h => by omega, HB0.out, HT0.out⟩
  case round =>
    obtain ⟨i, cs, hi, rfl, hl, hc, hB, hT⟩ := hrel
    clear HB0 HT0
    have Hl := Lib.hid hl
    have Hc := Lib.hid hc
    have HB := Lib.hid hB
    have HT := Lib.hid hT
    clear hl hc hB hT
    by_cases hlt : i < 8
    · have hcb : wr.cell? ⟨g, 7 - i, none⟩ = some (.int .u8 ((cs.getD (7 - i) 0 : Nat) : Int)) := by
        rw [HB.out.cell, List.getElem?_toArray]; exact cellsB_at (by rw [Hl.out]; omega)
      have hfr : wr.frozen? ⟨g, 7 - i, none⟩ = false := HB.out.frozen (7 - i)
      have h7 : (7 : Int) - (i : Int) = ((7 - i : Nat) : Int) := by omega
      have h8 := IntWalk.i64_in (8 * (i : Int)) (by omega)
      have h9 : wrap64 (((7 - i : Nat) : Int)) = ((7 - i : Nat) : Int) := IntWalk.wrap64_in _ (by omega)
      go_wp2_with fail
      go_roundw
      case rel =>
        rw [show ((n : Int) / 2 ^ (8 * i) % 256) = ((n / 2 ^ (8 * i) % 256 : Nat) : Int) by push_cast; rfl]
        have hset : (cellsB cs).toArray.setIfInBounds (7 - i) (.int .u8 ((n / 2 ^ (8 * i) % 256 : Nat) : Int)) = (cellsB (cs.set (7 - i) (n / 2 ^ (8 * i) % 256))).toArray := by rw [← cellsB_set]; simp
        have hB2 := HB.out.set_ (7 - i) (.int .u8 ((n / 2 ^ (8 * i) % 256 : Nat) : Int))
        rw [hset] at hB2
        exact ⟨i + 1, cs.set (7 - i) (n / 2 ^ (8 * i) % 256), by omega, by go_num, by rw [List.length_set]; exact Hl.out, small_step hlt Hl.out Hc.out, hB2, HT.out.setCell (p := ⟨g, 7 - i, none⟩) (.inr (by rw [Hg.out]; exact Nat.le_refl _)) _⟩
      case measure => simp [intOf]; omega
    · obtain rfl : i = 8 := by omega
      have hcs : cs = smS n := by
        refine List.ext_getElem (by rw [Hl.out, smS_len]) fun j hj _ => ?_
        rw [Hl.out] at hj
        have h1 := Hc.out j hj (by omega)
        have h2 := smS_at n j hj
        rw [← h2] at h1
        simpa [List.getD, Hl.out, smS_len, hj] using h1
      subst hcs
      have hconv := run_convert_bytes_arg (P := Tryd.prog) wr 28 5 Tryd.underlying28 Tryd.underlying5 g 0 8 8 ((smS n).map fun (n : Nat) => (n : Int)) (by rw [List.length_map, smS_len]) (fun i hi => by
        rw [HB.out.cell, Nat.zero_add, List.getElem?_toArray, cellsB_at (by rw [smS_len]; exact hi)]
        simp [List.getD]
        cases (smS n)[i]? <;> rfl) 9 Tryd.underlying9
      go_wp2_with fail
      go_ret
      exact ⟨rfl, HT.out⟩
end Go.Proofs.YtflpjnillfgghaaDoor
