/- The bytes of a point, as a number; and bytes in memory. -/
import Derived.Test.YtbgpgbfiadhddaaDoorPtRep
import Derived.Test.YtbgpgbfiadhddaaDoorCutE
namespace Go.Proofs.YtbgpgbfiadhddaaDoor
open Go Go.RowKit
def encN (P : Pt) : Nat := P.y.val + 2 ^ 255 * (P.x.val % 2)
def encS (P : Pt) : ByteArray := toS (encN P)
theorem PP_255 : PP < 2 ^ 255 := by decide
theorem enc_low (y b j : Nat) (hj : j < 31) : (y + 2 ^ 255 * b) / 2 ^ (8 * j) % 256 = y / 2 ^ (8 * j) % 256 := by
  have e : (2 : Nat) ^ 255 = 2 ^ (8 * j) * (256 * 2 ^ (247 - 8 * j)) := by
    rw [show (256 : Nat) = 2 ^ 8 from rfl, ← Nat.pow_add, ← Nat.pow_add]
    congr 1; omega
  rw [e, Nat.mul_assoc, Nat.add_mul_div_left _ _ (Nat.two_pow_pos _), Nat.mul_assoc, Nat.add_mul_mod_self_left]
theorem enc_top (y b : Nat) (hy : y < 2 ^ 255) (hb : b < 2) : (y + 2 ^ 255 * b) / 2 ^ (8 * 31) % 256 = y / 2 ^ (8 * 31) % 256 + 128 * b := by
  have e : (2 : Nat) ^ 255 = 2 ^ (8 * 31) * 128 := by decide
  have h1 : y / 2 ^ (8 * 31) < 128 := (Nat.div_lt_iff_lt_mul (Nat.two_pow_pos _)).2 (by rw [Nat.mul_comm, ← e]; exact hy)
  rw [e, Nat.mul_assoc, Nat.add_mul_div_left _ _ (Nat.two_pow_pos _)]
  generalize y / 2 ^ (8 * 31) = q at h1 ⊢
  omega
theorem y_top (P : Pt) : P.y.val / 2 ^ (8 * 31) < 128 := by
  have e : (2 : Nat) ^ 255 = 2 ^ (8 * 31) * 128 := by decide
  exact (Nat.div_lt_iff_lt_mul (Nat.two_pow_pos _)).2 (by rw [Nat.mul_comm, ← e]; exact Nat.lt_trans P.y.isLt PP_255)
theorem bytes_free (w : World) (e : TypeId) (t : ByteArray) (c j : Nat) (hj : j < t.size) :
    (w.drew.alloc (.cells (bytesRow t c) e ((bytesRow t c).size, (bytesRow t c).size + 1))).frozen? ⟨w.heap.size, j, none⟩ = false := by
  have hsz : t.size ≤ (bytesRow t c).size := by
    unfold bytesRow
    rw [Array.size_append, Array.size_map]
    exact Nat.le_add_right ..
  have hb : (w.drew.alloc (.cells (bytesRow t c) e ((bytesRow t c).size, (bytesRow t c).size + 1))).heap[w.heap.size]? = some (.cells (bytesRow t c) e ((bytesRow t c).size, (bytesRow t c).size + 1)) := heap_alloc_new w.drew _
  unfold World.frozen?
  rw [hb]
  simp
  omega
theorem Touch.frozen {a w : World} (h : Touch [] a w) {p : Addr} (hp : p.block < a.heap.size) : w.frozen? p = a.frozen? p := by
  unfold World.frozen?
  rw [h.block p.block hp (by simp)]
/-- A text as new bytes. -/
theorem bytes_new (w : World) (t : ByteArray) (n : Nat) (hn : t.size = n) : ∃ W g c, (convert 9 62 (.string t)).run Tryd.prog w = .ok (.slice (some ⟨g, 0, none⟩) n c) W ∧ Touch [] w W ∧ w.heap.size ≤ g ∧ g < W.heap.size ∧ (∀ j, j < n → W.cell? ⟨g, j, none⟩ = some (.int .u8 (((bl t).getD j 0 : Nat) : Int))) ∧ (∀ j, j < n → W.frozen? ⟨g, j, none⟩ = false) := by
  subst hn
  exact ⟨_, _, _, run_bytes_of_string (P := Tryd.prog) w 9 62 5 t Tryd.underlying9 Tryd.underlying62 Tryd.underlying5, (Touch.refl _ _).drew.alloc _, Nat.le_refl _, by simp, fun j hj => bytes_cellsE w 5 t _ j hj, fun j hj => bytes_free w 5 t _ j hj⟩
/-- Bytes in memory as a text of a number. -/
theorem text_of (w : World) (g c N : Nat) (h : ∀ j, j < 32 → w.cell? ⟨g, j, none⟩ = some (.int .u8 ((N / 2 ^ (8 * j) % 256 : Nat) : Int))) : (convert 62 9 (.slice (some ⟨g, 0, none⟩) 32 c)).run Tryd.prog w = .ok (.string (toS N)) w :=
  run_convert_bytes_arg (P := Tryd.prog) w 62 5 Tryd.underlying62 Tryd.underlying5 g 0 32 c ((List.range 32).map fun i => ((N / 2 ^ (8 * i) % 256 : Nat) : Int)) (by simp) (fun i hi => by
    rw [Nat.zero_add, h i hi]
    simp [List.getD, hi]) 9 Tryd.underlying9
theorem exec_conv {P : Program} {o : Oper} {w w' : World} {ρ : Operand → Value} {s d : TypeId} {x : Operand} {u v : Value} (ho : o.op = .convert s d x) (hx : ρ x = u) (h : (convert s d u).run P w = .ok v w') : (execOp ρ o).run P w = .ok (.value v) w' := by
  unfold execOp
  simp only [ho, hx, Sem.run_bind, Sem.run_pure, h, Result.andThen_ok]
theorem or128_all : ∀ y : Fin 128, bits .or .u8 (y.val : Int) 128 = ((y.val + 128 : Nat) : Int) := by decide
end Go.Proofs.YtbgpgbfiadhddaaDoor
