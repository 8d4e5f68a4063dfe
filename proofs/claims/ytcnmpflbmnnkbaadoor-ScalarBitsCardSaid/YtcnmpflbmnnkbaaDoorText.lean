/- (scalar.number).text: a number's 32 bytes. -/
import Derived.Test.YtcnmpflbmnnkbaaDoorCut
import Derived.Test.YtcnmpflbmnnkbaaDoorBytes
namespace Go.Proofs.YtcnmpflbmnnkbaaDoor
open Go.RowKit
def cellsU (l : List Nat) : List Value := l.map fun (n : Nat) => .int .u8 (n : Int)
theorem cellsU_at {l : List Nat} {j : Nat} (h : j < l.length) : (cellsU l)[j]? = some (.int .u8 ((l.getD j 0 : Nat) : Int)) := by simp [cellsU, List.getD, h]
theorem cellsU_set (l : List Nat) (j x : Nat) : (cellsU l).set j (.int .u8 (x : Int)) = cellsU (l.set j x) := by simp [cellsU]
theorem text_step {N i : Nat} {cs : List Nat} (hi : i < 32) (hl : cs.length = 32) (hc : ∀ j, j < i → cs.getD j 0 = N / 2 ^ (8 * j) % 256) :
    ∀ j, j < i + 1 → (cs.set i (N / 2 ^ (8 * i) % 256)).getD j 0 = N / 2 ^ (8 * j) % 256 := by
  intro j hj
  by_cases hji : j = i
  · subst hji; simp [List.getD, hl, hi]
  · have := hc j (by omega)
    simpa [List.getD, List.getElem?_set_ne (Ne.symm hji)] using this
set_option maxRecDepth 100000 in
set_option maxHeartbeats 1000000 in
theorem text_any (a : List Nat) (ha : a.length = 4) (wa : Words a) (w : World) :
    Calls Tryd.prog 27 #[numV a] w fun e w' => e = .returned (.string (toS (val a))) ∧ Touch [] w w' := by
  have Ha := Lib.hid ha
  have Wa := Lib.hid wa
  clear ha wa
  unfold numV
  go_enter Tryd.func27, Tryd.ntmps27
  go_wp2_with fail
  have hz0 : (cellsU (List.replicate 32 0)).toArray = #[.int .u8 0, .int .u8 0, .int .u8 0, .int .u8 0, .int .u8 0, .int .u8 0, .int .u8 0, .int .u8 0, .int .u8 0, .int .u8 0, .int .u8 0, .int .u8 0, .int .u8 0, .int .u8 0, .int .u8 0, .int .u8 0, .int .u8 0, .int .u8 0, .int .u8 0, .int .u8 0, .int .u8 0, .int .u8 0, .int .u8 0, .int .u8 0, .int .u8 0, .int .u8 0, .int .u8 0, .int .u8 0, .int .u8 0, .int .u8 0, .int .u8 0, .int .u8 0] := rfl
  rw [← hz0]
  obtain ⟨w1, hw1⟩ : ∃ w1, w1 = (w.alloc (.cells (cellsN a).toArray 37)).alloc (.cells (cellsU (List.replicate 32 0)).toArray 47) := ⟨_, rfl⟩
  have hA : Blk w1 w.heap.size 37 (cellsN a).toArray := by rw [hw1]; exact (Blk.new _ _ _).alloc _
  have hB : Blk w1 (w.heap.size + 1) 47 (cellsU (List.replicate 32 0)).toArray := by
    have := Blk.new (w.alloc (.cells (cellsN a).toArray 37)) 47 (cellsU (List.replicate 32 0)).toArray
    rw [hw1]; simpa using this
  have hT : Touch [] w w1 := by rw [hw1]; exact ((Touch.refl _ _).alloc _).alloc _
  rw [← hw1]
  obtain ⟨ga, hga⟩ : ∃ ga, ga = w.heap.size := ⟨_, rfl⟩
  have Hga := Lib.hid hga
  rw [← hga] at hA hB
  rw [← hga]
  clear hw1 hz0 hga
  go_loopw [5] (fun vi wr => ∃ (i : Nat) (cs : List Nat), i ≤ 32 ∧ vi = .int .i64 i ∧ cs.length = 32 ∧ (∀ j, j < i → cs.getD j 0 = val a / 2 ^ (8 * j) % 256) ∧
    Blk wr ga 37 (cellsN a).toArray ∧ Blk wr (ga + 1) 47 (cellsU cs).toArray ∧ Touch [] w wr) (fun vi _ => 32 - (intOf vi).toNat)
  case atStart => exact ⟨0, List.replicate 32 0, by omega, rfl, by simp, fun _ h => by omega, hA, hB, hT⟩
  case round =>
    obtain ⟨i, cs, hi, rfl, hl, hc, hA', hB', hT'⟩ := hrel
    clear hA hB hT
    have Hl := Lib.hid hl
    have Hc := Lib.hid hc
    have HA := Lib.hid hA'
    have HB := Lib.hid hB'
    have HT := Lib.hid hT'
    clear hl hc hA' hB' hT'
    by_cases hlt : i < 32
    · have hca : wr.cell? ⟨ga, i / 8, none⟩ = some (.int .u64 ((a.getD (i / 8) 0 : Nat) : Int)) := by
        rw [HA.out.cell, List.getElem?_toArray]; exact cellsN_at (by rw [Ha.out]; omega)
      have hcb : wr.cell? ⟨ga + 1, i, none⟩ = some (.int .u8 ((cs.getD i 0 : Nat) : Int)) := by
        rw [HB.out.cell, List.getElem?_toArray]; exact cellsU_at (by rw [Hl.out]; omega)
      have hfr : wr.frozen? ⟨ga + 1, i, none⟩ = false := HB.out.frozen i
      have hq : (i : Int).tdiv 8 = ((i / 8 : Nat) : Int) := by rw [Int.tdiv_eq_ediv_of_nonneg (by omega)]; omega
      have hr : (i : Int).tmod 8 = ((i % 8 : Nat) : Int) := by rw [Int.tmod_eq_emod_of_nonneg (by omega)]; omega
      have hi4 : i / 8 < 4 := by omega
      have hyw := Wa.out.at_ (i / 8)
      have hwd := word_at Wa.out (i / 8) (by rw [Ha.out]; exact hi4)
      have hby := byte_at (val a) i
      rw [← hwd] at hby
      obtain ⟨y, hy⟩ : ∃ y, y = a.getD (i / 8) 0 := ⟨_, rfl⟩
      rw [← hy] at hca hyw hby
      have Hby := Lib.hid hby
      clear hwd hy hby
      go_wp2_with fail
      go_roundw
      case rel =>
        have hz : ((y : Int) / 2 ^ (8 * (i % 8)) % 256) = ((val a / 2 ^ (8 * i) % 256 : Nat) : Int) := by rw [← Hby.out]; simp
        rw [hz]
        have hset : (cellsU cs).toArray.setIfInBounds i (.int .u8 ((val a / 2 ^ (8 * i) % 256 : Nat) : Int)) = (cellsU (cs.set i (val a / 2 ^ (8 * i) % 256))).toArray := by rw [← cellsU_set]; simp
        have hB2 := HB.out.set_ i (.int .u8 ((val a / 2 ^ (8 * i) % 256 : Nat) : Int))
        rw [hset] at hB2
        exact ⟨i + 1, cs.set i (val a / 2 ^ (8 * i) % 256), by omega, by go_num, by rw [List.length_set]; exact Hl.out, text_step hlt Hl.out Hc.out, HA.out.far (p := ⟨ga + 1, i, none⟩) (by simp) _, hB2, HT.out.setCell (p := ⟨ga + 1, i, none⟩) (.inr (by have := Hga.out; simp only; omega)) _⟩
      case measure => simp [intOf]; omega
    · obtain rfl : i = 32 := by omega
      have hconv := run_convert_bytes_arg (P := Tryd.prog) wr 30 5 Tryd.underlying30 Tryd.underlying5 (ga + 1) 0 32 32 (cs.map fun (n : Nat) => (n : Int)) (by rw [List.length_map]; exact Hl.out) (fun i hi => by
        rw [HB.out.cell, Nat.zero_add, List.getElem?_toArray, cellsU_at (by rw [Hl.out]; exact hi)]
        simp [List.getD]
        cases cs[i]? <;> rfl) 9 Tryd.underlying9
      have hfin : strOfNums (cs.map fun (n : Nat) => (n : Int)) = toS (val a) := by
        unfold toS
        congr 1
        apply List.ext_getElem?
        intro i
        by_cases hi : i < 32
        · have := Hc.out i hi
          rw [List.getElem?_map, List.getElem?_map, List.getElem?_range hi]
          have hci : i < cs.length := by rw [Hl.out]; exact hi
          rw [List.getElem?_eq_getElem hci]
          simp [List.getD, hci] at this
          simp [this]
        · rw [List.getElem?_eq_none (by rw [List.length_map, Hl.out]; omega), List.getElem?_eq_none (by simp; omega)]
      have Hfin := Lib.hid hfin
      clear hfin
      go_wp2_with fail
      go_ret
      exact ⟨ret_eq (by rw [Hfin.out]; rfl), HT.out⟩
end Go.Proofs.YtcnmpflbmnnkbaaDoor
