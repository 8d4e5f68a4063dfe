/- Operations on words, for drawn regions. -/
import Derived.Test.YtflpjnillfgghaaDoorWdFlow
namespace Go.Proofs.YtflpjnillfgghaaDoor
open Go Go.RowKit
section
variable {o : Oper} {a : Act} {w : World} {R : Value → World → Prop} {x y : Operand} {t1 t2 : TypeId}
theorem OpTo.xorN (i j : Nat) (ho : o.op = .binOp .xor t1 x y t2) (hx : a.eval x = .int .u64 (i : Int)) (hy : a.eval y = .int .u64 (j : Int)) (hR : R (.int .u64 ((xo i j : Nat) : Int)) w) : OpTo Tryd.prog o a w R :=
  OpTo.val (v := .int .u64 ((xo i j : Nat) : Int)) (by unfold execOp; simp only [ho, hx, hy, ← xor_c]; go_simp) hR
theorem OpTo.andN (i j : Nat) (ho : o.op = .binOp .and t1 x y t2) (hx : a.eval x = .int .u64 (i : Int)) (hy : a.eval y = .int .u64 (j : Int)) (hR : R (.int .u64 ((an i j : Nat) : Int)) w) : OpTo Tryd.prog o a w R :=
  OpTo.val (v := .int .u64 ((an i j : Nat) : Int)) (by unfold execOp; simp only [ho, hx, hy, ← and_c]; go_simp) hR
theorem OpTo.orN (i j : Nat) (ho : o.op = .binOp .or t1 x y t2) (hx : a.eval x = .int .u64 (i : Int)) (hy : a.eval y = .int .u64 (j : Int)) (hR : R (.int .u64 ((orr i j : Nat) : Int)) w) : OpTo Tryd.prog o a w R :=
  OpTo.val (v := .int .u64 ((orr i j : Nat) : Int)) (by unfold execOp; simp only [ho, hx, hy, ← or_c]; go_simp) hR
theorem OpTo.addN (i j : Nat) (ho : o.op = .binOp .add t1 x y t2) (hx : a.eval x = .int .u64 (i : Int)) (hy : a.eval y = .int .u64 (j : Int)) (hR : R (.int .u64 ((ad i j : Nat) : Int)) w) : OpTo Tryd.prog o a w R :=
  OpTo.val (v := .int .u64 ((ad i j : Nat) : Int)) (by unfold execOp; simp only [ho, hx, hy, ← add_c]; go_simp) hR
theorem OpTo.notN (i : Nat) (ho : o.op = .unOp .xor t1 x) (hx : a.eval x = .int .u64 (i : Int)) (hR : R (.int .u64 ((nt i : Nat) : Int)) w) : OpTo Tryd.prog o a w R :=
  OpTo.val (v := .int .u64 ((nt i : Nat) : Int)) (by unfold execOp; simp only [ho, hx]; go_simp; exact xor_c 18446744073709551615 i) hR
theorem OpTo.shrN (i n : Nat) (hn : n < 64) (ho : o.op = .binOp .shr t1 x y t2) (hx : a.eval x = .int .u64 (i : Int)) (hy : a.eval y = .int .u64 (n : Int)) (hR : R (.int .u64 ((i / 2 ^ n : Nat) : Int)) w) : OpTo Tryd.prog o a w R :=
  OpTo.val (v := .int .u64 ((i / 2 ^ n : Nat) : Int)) (by unfold execOp; simp only [ho, hx, hy]; go_simp) hR
theorem OpTo.ldU (g j : Nat) (v : Value) (ho : o.op = .load 36 x) (hx : a.eval x = .pointer (some ⟨g, j, none⟩)) (hc : w.cell? ⟨g, j, none⟩ = some v) (hR : R v w) : OpTo Tryd.prog o a w R :=
  OpTo.val (v := v) (by
    unfold execOp
    simp only [ho, hx]
    go_simp) hR
theorem OpTo.ixW (g j : Nat) (hj : j < 80) (ho : o.op = .indexAddr 58 x y) (hx : a.eval x = .pointer (some ⟨g, 0, none⟩)) (hy : a.eval y = .int .i64 (j : Int)) (hR : R (.pointer (some ⟨g, j, none⟩)) w) : OpTo Tryd.prog o a w R :=
  OpTo.val (v := .pointer (some ⟨g, j, none⟩)) (by
    unfold execOp
    simp only [ho, hx, hy]
    go_simp
    intro h
    omega) hR
theorem OpTo.ixS (g j : Nat) (hj : j < 8) (ho : o.op = .indexAddr 37 x y) (hx : a.eval x = .pointer (some ⟨g, 0, none⟩)) (hy : a.eval y = .int .i64 (j : Int)) (hR : R (.pointer (some ⟨g, j, none⟩)) w) : OpTo Tryd.prog o a w R :=
  OpTo.val (v := .pointer (some ⟨g, j, none⟩)) (by
    unfold execOp
    simp only [ho, hx, hy]
    go_simp
    intro h
    omega) hR
theorem OpTo.subN (i n : Nat) (h : n ≤ i) (hi : i < 1000) (ho : o.op = .binOp .sub t1 x y t2) (hx : a.eval x = .int .i64 (i : Int)) (hy : a.eval y = .int .i64 (n : Int)) (hR : R (.int .i64 ((i - n : Nat) : Int)) w) : OpTo Tryd.prog o a w R :=
  OpTo.val (v := .int .i64 ((i - n : Nat) : Int)) (by unfold execOp; simp only [ho, hx, hy]; go_simp; rw [show (i : Int) - (n : Int) = ((i - n : Nat) : Int) by omega]; exact IntWalk.i64_in _ (by omega)) hR
end
theorem callsW {o : Oper} {T : Tmp → SP} {w w' : World} {e : Ending} {x : Value} (d : Tmp) (hd : o.dst = some d) (hp : ∀ v w, v = x → (T d).p v w) (h : e = .returned x ∧ Touch [] w w') : ∃ v, e = .returned v ∧ (dOfW o T v w' ∧ Touch [] w w') :=
  ⟨x, h.1, dOfW.of d hd (hp _ _ rfl), h.2⟩
theorem argsW2 {ρ : Operand → Value} {x y : Operand} {u v : Value} (hx : ρ x = u) (hy : ρ y = v) : (#[x, y] : Array Operand).map ρ = #[u, v] := by simp [hx, hy]
theorem turn_t (x n : Nat) (hn0 : 0 < n) (hn : n < 64) (w : World) : Calls Tryd.prog 28 #[.int .u64 (x : Int), .int .i64 (n : Int)] w fun e w' => e = .returned (.int .u64 ((rot x n : Nat) : Int)) ∧ Touch [] w w' :=
  (turn_any x n hn0 hn w).mono fun e w' ⟨h1, h2⟩ => ⟨h1, by rw [h2]; exact Touch.refl _ _⟩
end Go.Proofs.YtflpjnillfgghaaDoor
