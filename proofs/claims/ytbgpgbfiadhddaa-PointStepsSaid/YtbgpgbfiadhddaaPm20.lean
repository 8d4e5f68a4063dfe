/- OpsR: joined. -/
import Derived.Great.BuildSlice
import Derived.IntWalk
import Derived.Test.YtbgpgbfiadhddaaPm07
import Derived.Test.YtbgpgbfiadhddaaPm10
/- Operations on rows of ints, for regions that are walked by their slots. -/
namespace Go.Proofs.Ytbgpgbfiadhddaa
open Go Go.RowKit
section
variable {o : Oper} {a : Act} {w : World} {R : Value → World → Prop} {x y : Operand} {t1 t2 : TypeId} {k : IntKind}
/-- The place of an element of a row of ints. -/
theorem OpTo.ixI (g off n c i : Nat) (ho : o.op = .indexAddr 79 x y) (hx : a.eval x = .slice (some ⟨g, off, none⟩) n c) (hy : a.eval y = .int k (i : Int)) (hi : i < n) (hR : R (.pointer (some ⟨g, off + i, none⟩)) w) : OpTo Try.prog o a w R :=
  OpTo.val (v := .pointer (some ⟨g, off + i, none⟩)) (by
    have h1 : (0 : Int) ≤ (i : Int) ∧ (i : Int) < (n : Int) := by omega
    unfold execOp
    simp only [ho, hx, hy]
    go_simp) hR
theorem OpTo.ldI (g j : Nat) (v : Value) (ho : o.op = .load 3 x) (hx : a.eval x = .pointer (some ⟨g, j, none⟩)) (hc : w.cell? ⟨g, j, none⟩ = some v) (hR : R v w) : OpTo Try.prog o a w R :=
  OpTo.val (v := v) (by
    unfold execOp
    simp only [ho, hx]
    go_simp) hR
theorem OpTo.cvI (kd : IntKind) (i r : Int) (ho : o.op = .convert t1 t2 x) (h1 : (Try.prog.underlying t1).isSome = true) (h2 : Try.prog.underlying t2 = some (.int kd)) (hx : a.eval x = .int k i) (hr : kd.wrap i = r) (hR : R (.int kd r) w) : OpTo Try.prog o a w R := by
  have e : Try.prog.intKind t2 = kd := by unfold Program.intKind; rw [h2]
  refine OpTo.val (v := .int kd r) ?_ hR
  have := run_convert_int (P := Try.prog) w t1 t2 k i h1 (by rw [e]; exact h2)
  rw [e, hr] at this
  unfold execOp
  simp only [ho, hx]
  go_simp
end
section
variable {P : Program} {o : Oper} {a : Act} {w : World} {R : Value → World → Prop} {x y : Operand} {t1 t2 : TypeId} {k : IntKind}
theorem OpTo.quoI (i j r : Int) (hj : 0 < j) (hi : 0 ≤ i) (ho : o.op = .binOp .quo t1 x y t2) (hx : a.eval x = .int k i) (hy : a.eval y = .int k j) (hr : k.wrap (i / j) = r) (hR : R (.int k r) w) : OpTo P o a w R :=
  OpTo.val (v := .int k r) (by
    have h1 : j ≠ 0 := by omega
    have h2 : i.tdiv j = i / j := Int.tdiv_eq_ediv_of_nonneg hi
    unfold execOp; simp only [ho, hx, hy]; go_simp
    try (rw [h2]; exact hr)) hR
end
/-- A slice of two bytes, that a call made. -/
def sl2 (d e : Int) : SP := ⟨fun v w => ∃ g, v = .slice (some ⟨g, 0, none⟩) 2 2 ∧ Blk w g 5 #[.int .u8 d, .int .u8 e], fun _ _ _ ⟨g, hv, hb⟩ ht => ⟨g, hv, hb.touch ht (by simp)⟩⟩
theorem OpTo.two {o : Oper} {a : Act} {w : World} {T : Tmp → SP} {x y : Operand} (d e : Int) (ho : o.op = .buildSlice 53 2 #[(0, x), (1, y)]) (hx : a.eval x = .int .u8 d) (hy : a.eval y = .int .u8 e) (hv : ∀ v w', (sl2 d e).p v w' → dOfW o T v w') : OpTo Try.prog o a w (fun v w' => dOfW o T v w' ∧ Touch [] w w') := by
  have h : (execOp a.eval o).run Try.prog w = .ok (.value (.slice (some ⟨w.heap.size, 0, none⟩) 2 2)) (w.alloc (.cells #[.int .u8 d, .int .u8 e] 5)) := by
    unfold execOp
    simp only [ho]
    simp only [List.map_toArray, List.map_cons, List.map_nil, hx, hy]
    go_simp
  intro K Q hK
  unfold Oper.wp
  rw [h]
  exact hK _ _ ⟨hv _ _ ⟨w.heap.size, rfl, Blk.new _ _ _⟩, (Touch.refl _ _).alloc _⟩
end Go.Proofs.Ytbgpgbfiadhddaa
