/- Operations on a table's cells. -/
import Derived.Test.YtehbfoiadinhbaaRtFlow
import Derived.Test.YtehbfoiadinhbaaRtNew
namespace Go.Proofs.Ytehbfoiadinhbaa
open Go Go.RowKit
section
variable {o : Oper} {a : Act} {w : World} {R : Value → World → Prop} {x : Operand}
theorem OpTo.nilc (p : Addr) (ho : o.op = .nilCheck x) (hx : a.eval x = .pointer (some p)) (hR : R (.pointer (some p)) w) : OpTo Try.prog o a w R :=
  OpTo.val (v := .pointer (some p)) (by unfold execOp; simp only [ho, hx]; rfl) hR
theorem field_run0 (b : Nat) (w : World) : (Instr.fieldAt 69 (.pointer (some ⟨b, 0, none⟩)) 0).run Try.prog w = .ok (.pointer (some ⟨b, 0, none⟩)) w := by kernel_rfl
theorem field_run1 (b : Nat) (w : World) : (Instr.fieldAt 69 (.pointer (some ⟨b, 0, none⟩)) 1).run Try.prog w = .ok (.pointer (some ⟨b, 5, none⟩)) w := by kernel_rfl
theorem field_run2 (b : Nat) (w : World) : (Instr.fieldAt 69 (.pointer (some ⟨b, 0, none⟩)) 2).run Try.prog w = .ok (.pointer (some ⟨b, 6, none⟩)) w := by kernel_rfl
theorem OpTo.fad (b k off : Nat) (ho : o.op = .fieldAddr 69 x k) (hx : a.eval x = .pointer (some ⟨b, 0, none⟩))
    (hf : ∀ W, (Instr.fieldAt 69 (.pointer (some ⟨b, 0, none⟩)) k).run Try.prog W = .ok (.pointer (some ⟨b, off, none⟩)) W) (hR : R (.pointer (some ⟨b, off, none⟩)) w) : OpTo Try.prog o a w R :=
  OpTo.val (v := .pointer (some ⟨b, off, none⟩)) (by
    unfold execOp
    simp only [ho, hx]
    have := hf w
    show ((Instr.fieldAt 69 (.pointer (some ⟨b, 0, none⟩)) k) >>= fun v => pure (Next.value v)).run Try.prog w = _
    rw [Sem.run_bind, this]
    rfl) hR
theorem OpTo.ldM (g j : Nat) (v : Value) (ho : o.op = .load 67 x) (hx : a.eval x = .pointer (some ⟨g, j, none⟩)) (hc : w.cell? ⟨g, j, none⟩ = some v) (hR : R v w) : OpTo Try.prog o a w R :=
  OpTo.val (v := v) (by
    unfold execOp
    simp only [ho, hx]
    go_simp) hR
theorem OpTo.ldH (g j : Nat) (v : Value) (ho : o.op = .load 64 x) (hx : a.eval x = .pointer (some ⟨g, j, none⟩)) (hc : w.cell? ⟨g, j, none⟩ = some v) (hR : R v w) : OpTo Try.prog o a w R :=
  OpTo.val (v := v) (by
    unfold execOp
    simp only [ho, hx]
    go_simp) hR
/-- The config out of a table. -/
theorem OpTo.ldC (g : Nat) (c : Cf) (ho : o.op = .load 24 x) (hx : a.eval x = .pointer (some ⟨g, 0, none⟩)) (hc : w.rangeAt g 0 (cfC c)) (hR : R (cfV c) w) : OpTo Try.prog o a w R :=
  OpTo.row _ x ho g hx (cfC c) _ hc Try.underlying24 rfl (by kernel_rfl) hR
end
theorem tbl_range {w : World} {pt : Nat} {c : Cf} {pm ph : Nat} (h : Blk w pt 69 (tbC c pm ph)) : w.rangeAt pt 0 (cfC c) := by
  intro j v hj
  rw [h.cell, Nat.zero_add]
  match j, hj with
  | 0, hj => exact hj
  | 1, hj => exact hj
  | 2, hj => exact hj
  | 3, hj => exact hj
  | 4, hj => exact hj
  | j + 5, hj => simp [cfC] at hj
end Go.Proofs.Ytehbfoiadinhbaa
