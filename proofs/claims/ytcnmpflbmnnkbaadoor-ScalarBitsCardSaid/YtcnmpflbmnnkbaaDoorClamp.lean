/- scalar.Clamp. -/
import Derived.Test.YtcnmpflbmnnkbaaDoorBit
import Derived.Lib.BufferWrite
namespace Go.Proofs.YtcnmpflbmnnkbaaDoor
open Go.RowKit
/-- 32 bytes of a text; what is missing is 0. -/
def padL (l : List Nat) : List Nat := l.take 32 ++ List.replicate (32 - l.length) 0
def clampL (l : List Nat) : List Nat := ((padL l).set 0 ((padL l).getD 0 0 - (padL l).getD 0 0 % 8)).set 31 ((padL l).getD 31 0 % 64 + 64)
theorem padL_len (l : List Nat) : (padL l).length = 32 := by simp [padL]; omega
theorem padL_lt {l : List Nat} (h : ∀ b ∈ l, b < 256) (j : Nat) : (padL l).getD j 0 < 256 := by
  by_cases hj : j < (padL l).length
  · rw [List.getD, List.getElem?_eq_getElem hj]
    have hm := List.getElem_mem hj
    unfold padL at hm
    rcases List.mem_append.1 hm with h1 | h1
    · exact h _ (List.mem_of_mem_take h1)
    · have := (List.mem_replicate.1 h1).2
      rw [Option.getD_some]
      exact Nat.lt_of_le_of_lt (Nat.le_of_eq this) (by omega)
  · simp [List.getD, List.getElem?_eq_none (by omega : (padL l).length ≤ j)]
/-- copy of a text into a row that is known whole, as far as it goes. -/
theorem run_copy_text {P : Program} (w : World) (dT sT ty elem : TypeId) (g dLen dCap : Nat) (s : ByteArray) (cur : Array Value) (t : TypeId)
    (hu : P.underlying dT = some (.slice elem)) (hs : (P.info? elem).map (·.size) = some 1) (hg : w.heap[g]? = some (.cells cur t (0, 0))) (hsz : cur.size = dLen) :
    (Builtin.copy_ #[dT, sT] ty #[.slice (some ⟨g, 0, none⟩) dLen dCap, .string s]).run P w =
      .ok (goInt (Nat.min s.size dLen)) (w.setRow g (Lib.byteCells (s.data.toList.take dLen) ++ cur.toList.drop (Nat.min s.size dLen)).toArray) := by
  have hlen : (Lib.byteCells (s.data.toList.take dLen)).length = Nat.min s.size dLen := by
    rw [Lib.byteCells_length, List.length_take, ← Lib.size_eq, Nat.min_comm]
  have hle : Nat.min s.size dLen ≤ dLen := Nat.min_le_right _ _
  have hst := run_storeCells_at P g 0 t (Lib.byteCells (s.data.toList.take dLen)) 0 cur w hg (by rw [hlen]; omega) (Lib.byteCells_one _)
  have htk : List.take (Nat.min s.size dLen) (List.map (fun b : UInt8 => Value.int IntKind.u8 (b.toNat : Int)) s.data.toList) = Lib.byteCells (s.data.toList.take dLen) := by
    unfold Lib.byteCells
    rw [← List.map_take]
    congr 1
    have : s.data.toList.length = s.size := (Lib.size_eq s).symm
    have e : Nat.min s.size dLen = min s.size dLen := rfl
    rw [List.take_eq_take_iff, e, this]
    omega
  rw [hlen] at hst
  simp only [Nat.add_zero, Nat.zero_add, List.take_zero, List.nil_append] at hst
  cases hq : P.info? elem with
  | none => simp [hq] at hs
  | some i =>
    simp [Builtin.copy_, run_underlying hu, Builtin.lenOf, Builtin.firstCells, sizeOf, typeInfo, hq]
    rw [htk, hst]
    simp [Result.andThen]
def cellsU32 (l : List Nat) : Array Value := (cellsU (padL l)).toArray
theorem copied_cells (s : ByteArray) : ((Lib.byteCells (s.data.toList.take 32) ++ (cellsU (List.replicate 32 0)).toArray.toList.drop (Nat.min s.size 32)).toArray : Array Value) = (cellsU (padL (bl s))).toArray := by
  congr 1
  unfold padL cellsU
  rw [List.map_append]
  congr 1
  · unfold Lib.byteCells bl
    rw [← List.map_take, List.map_map]
    rfl
  · have e : Nat.min s.size 32 = min s.size 32 := rfl
    rw [bl_len, e, List.map_replicate, List.map_replicate, List.drop_replicate]
    congr 1
    omega
theorem or64 : ∀ y : Fin 64, bits .or .u8 (y.val : Int) 64 = ((y.val + 64 : Nat) : Int) := by decide +kernel
set_option maxRecDepth 100000 in
set_option maxHeartbeats 1000000 in
theorem clamp_any (s : ByteArray) (w : World) :
    Calls Tryd.prog 18 #[.string s] w fun e w' => e = .returned (.string (strOfNums ((clampL (bl s)).map fun (n : Nat) => (n : Int)))) ∧ Touch [] w w' := by
  go_enter Tryd.func18, Tryd.ntmps18
  go_upto_region 2 with fail
  have hz0 : (cellsU (List.replicate 32 0)).toArray = #[.int .u8 0, .int .u8 0, .int .u8 0, .int .u8 0, .int .u8 0, .int .u8 0, .int .u8 0, .int .u8 0, .int .u8 0, .int .u8 0, .int .u8 0, .int .u8 0, .int .u8 0, .int .u8 0, .int .u8 0, .int .u8 0, .int .u8 0, .int .u8 0, .int .u8 0, .int .u8 0, .int .u8 0, .int .u8 0, .int .u8 0, .int .u8 0, .int .u8 0, .int .u8 0, .int .u8 0, .int .u8 0, .int .u8 0, .int .u8 0, .int .u8 0, .int .u8 0] := rfl
  rw [← hz0]
  obtain ⟨g, hg⟩ : ∃ g, g = w.heap.size := ⟨_, rfl⟩
  obtain ⟨w1, hw1⟩ : ∃ w1, w1 = w.alloc (.cells (cellsU (List.replicate 32 0)).toArray 47) := ⟨_, rfl⟩
  have hB : Blk w1 g 47 (cellsU (List.replicate 32 0)).toArray := by rw [hw1, hg]; exact Blk.new _ _ _
  have hT : Touch [] w w1 := by rw [hw1]; exact (Touch.refl _ _).alloc _
  rw [← hw1, ← hg]
  have hcp := fun ty => run_copy_text (P := Tryd.prog) w1 30 9 ty 5 g 32 32 s _ 47 Tryd.underlying30 (by kernel_rfl) hB (by simp [cellsU])
  rw [copied_cells] at hcp
  have hB2 : Blk (w1.setRow g (cellsU (padL (bl s))).toArray) g 47 (cellsU (padL (bl s))).toArray := setRow_heap w1 g _ _ _ _ hB
  have hT2 : Touch [] w (w1.setRow g (cellsU (padL (bl s))).toArray) := hT.setRow (.inr (by rw [hg]; exact Nat.le_refl _)) _
  obtain ⟨w2, hw2⟩ : ∃ w2, w2 = w1.setRow g (cellsU (padL (bl s))).toArray := ⟨_, rfl⟩
  rw [← hw2] at hcp hB2 hT2
  have hl := padL_len (bl s)
  have hx0 := padL_lt (bl_lt s) 0
  have hx31 := padL_lt (bl_lt s) 31
  have h0 : w2.cell? ⟨g, 0, none⟩ = some (.int .u8 (((padL (bl s)).getD 0 0 : Nat) : Int)) := by rw [hB2.cell, List.getElem?_toArray]; exact cellsU_at (by omega)
  have h31 : w2.cell? ⟨g, 31, none⟩ = some (.int .u8 (((padL (bl s)).getD 31 0 : Nat) : Int)) := by rw [hB2.cell, List.getElem?_toArray]; exact cellsU_at (by omega)
  have hcl : clampL (bl s) = ((padL (bl s)).set 0 ((padL (bl s)).getD 0 0 - (padL (bl s)).getD 0 0 % 8)).set 31 ((padL (bl s)).getD 31 0 % 64 + 64) := rfl
  obtain ⟨p, hp⟩ : ∃ p, p = padL (bl s) := ⟨_, rfl⟩
  rw [← hp] at hB2 hl hx0 hx31 h0 h31 hcl
  obtain ⟨x, hx⟩ : ∃ x, x = p.getD 0 0 := ⟨_, rfl⟩
  obtain ⟨y, hy⟩ : ∃ y, y = p.getD 31 0 := ⟨_, rfl⟩
  rw [← hx] at h0 hcl hx0
  rw [← hy] at h31 hcl hx31
  have hand : bits .and .u8 (x : Int) 248 = ((x - x % 8 : Nat) : Int) := (and8_all ⟨x, hx0⟩).2.1
  have hor : bits .or .u8 ((y : Int) % 64) 64 = ((y % 64 + 64 : Nat) : Int) := by
    have h := or64 ⟨y % 64, Nat.mod_lt _ (by omega)⟩
    have e : ((y : Int) % 64) = ((y % 64 : Nat) : Int) := by omega
    rw [e]; exact h
  have f0 : ∀ j, w2.frozen? ⟨g, j, none⟩ = false := fun j => hB2.frozen j
  have HB2 := Lib.hid hB2
  have HT2 := Lib.hid hT2
  have Hg := Lib.hid hg
  have Hcl := Lib.hid hcl
  have Hl := Lib.hid hl
  have Hand := Lib.hid hand
  have Hor := Lib.hid hor
  clear hB hT hw1 hg hz0 hw2 hB2 hT2 hcl hl hx hy hp hand hor
  go_upto_region 5 with fail
  rw [Hand.out, Hor.out]
  have hB3 := (HB2.out.set_ 0 (.int .u8 ((x - x % 8 : Nat) : Int))).set_ 31 (.int .u8 ((y % 64 + 64 : Nat) : Int))
  have hset : ((cellsU p).toArray.setIfInBounds 0 (.int .u8 ((x - x % 8 : Nat) : Int))).setIfInBounds 31 (.int .u8 ((y % 64 + 64 : Nat) : Int)) = (cellsU (clampL (bl s))).toArray := by
    rw [Hcl.out, ← cellsU_set, ← cellsU_set]; simp
  rw [hset] at hB3
  have hgg : g ∈ ([] : List Nat) ∨ w.heap.size ≤ g := .inr (by rw [Hg.out]; exact Nat.le_refl _)
  have hT3 := (HT2.out.setCell (p := ⟨g, 0, none⟩) hgg (.int .u8 ((x - x % 8 : Nat) : Int))).setCell (p := ⟨g, 31, none⟩) hgg (.int .u8 ((y % 64 + 64 : Nat) : Int))
  obtain ⟨w3, hw3⟩ : ∃ w3, w3 = (w2.setCell ⟨g, 0, none⟩ (.int .u8 ((x - x % 8 : Nat) : Int))).setCell ⟨g, 31, none⟩ (.int .u8 ((y % 64 + 64 : Nat) : Int)) := ⟨_, rfl⟩
  rw [← hw3] at hB3 hT3 ⊢
  have hcl : (clampL (bl s)).length = 32 := by rw [Hcl.out, List.length_set, List.length_set]; exact Hl.out
  have hconv := run_convert_bytes_arg (P := Tryd.prog) w3 30 5 Tryd.underlying30 Tryd.underlying5 g 0 32 32 ((clampL (bl s)).map fun (n : Nat) => (n : Int)) (by rw [List.length_map]; exact hcl) (fun i hi => by
    rw [hB3.cell, Nat.zero_add, List.getElem?_toArray, cellsU_at (by rw [hcl]; exact hi)]
    simp [List.getD]
    cases (clampL (bl s))[i]? <;> rfl) 9 Tryd.underlying9
  have HT3 := Lib.hid hT3
  clear hB3 hset hT3 hw3 hcl hcp h0 h31 f0
  go_wp2_with fail
  go_ret
  exact ⟨rfl, HT3.out⟩
end Go.Proofs.YtcnmpflbmnnkbaaDoor
