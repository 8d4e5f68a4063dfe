/- Operations on the cells of the document's table, and of a request. -/
import Derived.Test.YtehbfoiadinhbaaRtOps
import Derived.Test.YtehbfoiadinhbaaRfDone
namespace Go.Proofs.Ytehbfoiadinhbaa
open Go Go.RowKit
section
variable {o : Oper} {a : Act} {w : World} {R : Value → World → Prop} {x y z : Operand}
theorem OpTo.fadT (t b k j off : Nat) (ho : o.op = .fieldAddr t x k) (hx : a.eval x = .pointer (some ⟨b, j, none⟩))
    (hf : ∀ W, (Instr.fieldAt t (.pointer (some ⟨b, j, none⟩)) k).run Try.prog W = .ok (.pointer (some ⟨b, off, none⟩)) W) (hR : R (.pointer (some ⟨b, off, none⟩)) w) : OpTo Try.prog o a w R :=
  OpTo.val (v := .pointer (some ⟨b, off, none⟩)) (by
    unfold execOp
    simp only [ho, hx]
    have := hf w
    show ((Instr.fieldAt t (.pointer (some ⟨b, j, none⟩)) k) >>= fun v => pure (Next.value v)).run Try.prog w = _
    rw [Sem.run_bind, this]
    rfl) hR
theorem rfield0 (b : Nat) (w : World) : (Instr.fieldAt 61 (.pointer (some ⟨b, 0, none⟩)) 0).run Try.prog w = .ok (.pointer (some ⟨b, 0, none⟩)) w := by kernel_rfl
theorem rfield1 (b : Nat) (w : World) : (Instr.fieldAt 61 (.pointer (some ⟨b, 0, none⟩)) 1).run Try.prog w = .ok (.pointer (some ⟨b, 5, none⟩)) w := by kernel_rfl
theorem qfield0 (b : Nat) (w : World) : (Instr.fieldAt 75 (.pointer (some ⟨b, 0, none⟩)) 0).run Try.prog w = .ok (.pointer (some ⟨b, 0, none⟩)) w := by kernel_rfl
theorem qfield1 (b : Nat) (w : World) : (Instr.fieldAt 75 (.pointer (some ⟨b, 0, none⟩)) 1).run Try.prog w = .ok (.pointer (some ⟨b, 1, none⟩)) w := by kernel_rfl
theorem qfield2 (b : Nat) (w : World) : (Instr.fieldAt 75 (.pointer (some ⟨b, 0, none⟩)) 2).run Try.prog w = .ok (.pointer (some ⟨b, 2, none⟩)) w := by kernel_rfl
theorem OpTo.ldN (g j : Nat) (v : Value) (ho : o.op = .load 3 x) (hx : a.eval x = .pointer (some ⟨g, j, none⟩)) (hc : w.cell? ⟨g, j, none⟩ = some v) (hR : R v w) : OpTo Try.prog o a w R :=
  OpTo.val (v := v) (by
    unfold execOp
    simp only [ho, hx]
    go_simp) hR
theorem OpTo.ldL (g j : Nat) (v : Value) (ho : o.op = .load 59 x) (hx : a.eval x = .pointer (some ⟨g, j, none⟩)) (hc : w.cell? ⟨g, j, none⟩ = some v) (hR : R v w) : OpTo Try.prog o a w R :=
  OpTo.val (v := v) (by
    unfold execOp
    simp only [ho, hx]
    go_simp) hR
theorem OpTo.ldC2 (g : Nat) (c : Cf) (ho : o.op = .load 54 x) (hx : a.eval x = .pointer (some ⟨g, 0, none⟩)) (hc : w.rangeAt g 0 (cfC c)) (hR : R (cfV c) w) : OpTo Try.prog o a w R :=
  OpTo.row _ x ho g hx (cfC c) _ hc Try.underlying54 rfl (by kernel_rfl) hR
theorem OpTo.bldQ (u v t : Int) (ho : o.op = .build 75 #[(0, x), (1, y), (2, z)]) (hx : a.eval x = .int .i64 u) (hy : a.eval y = .int .i64 v) (hz : a.eval z = .int .u64 t)
    (hR : R (.agg #[.int .i64 u, .int .i64 v, .int .u64 t]) w) : OpTo Try.prog o a w R :=
  OpTo.val (v := .agg #[.int .i64 u, .int .i64 v, .int .u64 t]) (by
    unfold execOp
    simp only [ho, hx, hy, hz, List.map_toArray, List.map_cons, List.map_nil]
    go_simp) hR
/-- A new slice of no element. -/
def noSl : SP := pu fun v => ∃ A, v = .slice A 0 0
theorem OpTo.nilI {T : Tmp → SP} (ho : o.op = .buildSlice 34 0 #[]) (hv : ∀ v w', noSl.p v w' → dOfW o T v w') : OpTo Try.prog o a w (fun v w' => dOfW o T v w' ∧ Touch [] w w') := by
  have h : (execOp a.eval o).run Try.prog w = .ok (.value (.slice (some ⟨w.heap.size, 0, none⟩) 0 0)) (w.alloc (.cells #[] 3)) := by
    unfold execOp
    simp only [ho]
    go_simp
  intro K Q hK
  unfold Oper.wp
  rw [h]
  exact hK _ _ ⟨hv _ _ ⟨_, rfl⟩, (Touch.refl _ _).alloc _⟩
theorem OpTo.nilQ {T : Tmp → SP} (ho : o.op = .buildSlice 59 0 #[]) (hv : ∀ v w', noSl.p v w' → dOfW o T v w') : OpTo Try.prog o a w (fun v w' => dOfW o T v w' ∧ Touch [] w w') := by
  have h : (execOp a.eval o).run Try.prog w = .ok (.value (.slice (some ⟨w.heap.size, 0, none⟩) 0 0)) (w.alloc (.cells #[] 75)) := by
    unfold execOp
    simp only [ho]
    go_simp
  intro K Q hK
  unfold Oper.wp
  rw [h]
  exact hK _ _ ⟨hv _ _ ⟨_, rfl⟩, (Touch.refl _ _).alloc _⟩
end
end Go.Proofs.Ytehbfoiadinhbaa
