/- Further operations, for regions that are walked by their slots. -/
import Derived.Test.YtbgpgbfiadhddaaDoorFlowW
import Derived.Test.YtbgpgbfiadhddaaDoorElem
import Derived.IntWalk
namespace Go.Proofs.YtbgpgbfiadhddaaDoor
open Go Go.RowKit
section
variable {P : Program} {o : Oper} {a : Act} {w : World} {R : Value → World → Prop} {x y : Operand} {t1 t2 : TypeId} {k : IntKind}
theorem OpTo.neI (i j : Int) (ho : o.op = .binOp .neq t1 x y t2) (hx : a.eval x = .int k i) (hy : a.eval y = .int k j) (hR : R (.bool (!decide (i = j))) w) : OpTo P o a w R :=
  OpTo.val (v := .bool (!decide (i = j))) (by unfold execOp; simp only [ho, hx, hy]; go_simp; rfl) hR
theorem OpTo.ltI (i j : Int) (ho : o.op = .binOp .lss t1 x y t2) (hx : a.eval x = .int k i) (hy : a.eval y = .int k j) (hR : R (.bool (decide (i < j))) w) : OpTo P o a w R :=
  OpTo.val (v := .bool (decide (i < j))) (by unfold execOp; simp only [ho, hx, hy]; go_simp) hR
theorem OpTo.gtI (i j : Int) (ho : o.op = .binOp .gtr t1 x y t2) (hx : a.eval x = .int k i) (hy : a.eval y = .int k j) (hR : R (.bool (decide (j < i))) w) : OpTo P o a w R :=
  OpTo.val (v := .bool (decide (j < i))) (by unfold execOp; simp only [ho, hx, hy]; go_simp) hR
theorem OpTo.addI (i j r : Int) (ho : o.op = .binOp .add t1 x y t2) (hx : a.eval x = .int k i) (hy : a.eval y = .int k j) (hr : k.wrap (i + j) = r) (hR : R (.int k r) w) : OpTo P o a w R :=
  OpTo.val (v := .int k r) (by unfold execOp; simp only [ho, hx, hy]; go_simp) hR
theorem OpTo.subI (i j r : Int) (ho : o.op = .binOp .sub t1 x y t2) (hx : a.eval x = .int k i) (hy : a.eval y = .int k j) (hr : k.wrap (i - j) = r) (hR : R (.int k r) w) : OpTo P o a w R :=
  OpTo.val (v := .int k r) (by unfold execOp; simp only [ho, hx, hy]; go_simp) hR
theorem OpTo.mulI (i j r : Int) (ho : o.op = .binOp .mul t1 x y t2) (hx : a.eval x = .int k i) (hy : a.eval y = .int k j) (hr : k.wrap (i * j) = r) (hR : R (.int k r) w) : OpTo P o a w R :=
  OpTo.val (v := .int k r) (by unfold execOp; simp only [ho, hx, hy]; go_simp) hR
theorem OpTo.remI (i j r : Int) (hj : j ≠ 0) (ho : o.op = .binOp .rem t1 x y t2) (hx : a.eval x = .int k i) (hy : a.eval y = .int k j) (hr : i.tmod j = r) (hR : R (.int k r) w) : OpTo P o a w R :=
  OpTo.val (v := .int k r) (by unfold execOp; simp only [ho, hx, hy]; go_simp) hR
theorem OpTo.addS (s u : ByteArray) (ho : o.op = .binOp .add t1 x y t2) (hx : a.eval x = .string s) (hy : a.eval y = .string u) (hn : s.size + u.size ≤ 9223372036854775807) (hR : R (.string (s ++ u)) w) : OpTo P o a w R :=
  OpTo.val (v := .string (s ++ u)) (by
    unfold execOp
    simp only [ho, hx, hy]
    have := run_string_add_sum (P := P) (w := w) s u hn
    go_simp) hR
end
/-- A slice of one byte, that a call made. -/
def sl1 (d : Int) : SP := ⟨fun v w => ∃ g, v = .slice (some ⟨g, 0, none⟩) 1 1 ∧ Blk w g 5 #[.int .u8 d], fun _ _ _ ⟨g, hv, hb⟩ ht => ⟨g, hv, hb.touch ht (by simp)⟩⟩
section
variable {o : Oper} {a : Act} {w : World} {T : Tmp → SP} {x : Operand}
theorem OpTo.one (d : Int) (ho : o.op = .buildSlice 62 1 #[(0, x)]) (hx : a.eval x = .int .u8 d) (hv : ∀ v w', (sl1 d).p v w' → dOfW o T v w') : OpTo Tryd.prog o a w (fun v w' => dOfW o T v w' ∧ Touch [] w w') := by
  have h : (execOp a.eval o).run Tryd.prog w = .ok (.value (.slice (some ⟨w.heap.size, 0, none⟩) 1 1)) (w.alloc (.cells #[.int .u8 d] 5)) := by
    unfold execOp
    simp only [ho]
    simp only [List.map_toArray, List.map_cons, List.map_nil, hx]
    go_simp
  intro K Q hK
  unfold Oper.wp
  rw [h]
  exact hK _ _ ⟨hv _ _ ⟨w.heap.size, rfl, Blk.new _ _ _⟩, (Touch.refl _ _).alloc _⟩
theorem OpTo.str1 (d : Int) (ho : o.op = .convert 62 9 x) (hx : (sl1 d).p (a.eval x) w) (hv : dOfW o T (.string (strOfNums [d])) w) : OpTo Tryd.prog o a w (fun v w' => dOfW o T v w' ∧ Touch [] w w') := by
  obtain ⟨g, hg, hb⟩ := hx
  refine OpTo.here ?_ hv
  have := run_convert_bytes_arg (P := Tryd.prog) w 62 5 Tryd.underlying62 Tryd.underlying5 g 0 1 1 [d] rfl (fun i hi => by
    obtain rfl : i = 0 := by omega
    rw [hb.cell]
    rfl) 9 Tryd.underlying9
  unfold execOp
  simp only [ho, hg]
  go_simp
end
/-- A call's end, as a slot asks it. -/
theorem Gives.toW {o : Oper} {T : Tmp → SP} {w : World} {p : Value → Prop} (d : Tmp) (hd : o.dst = some d) (hp : ∀ v w, p v → (T d).p v w) {e : Ending} {w' : World} (h : Gives w p e w') : ∃ v, e = .returned v ∧ dOfW o T v w' ∧ Touch [] w w' := by
  obtain ⟨v, he, hv, ht⟩ := h
  exact ⟨v, he, dOfW.of d hd (hp v w' hv), ht⟩
theorem cut_s {s : ByteArray} {n : Nat} {x : Value} (hx : isS s x) (hn : cutN s = n) (w : World) : Calls Tryd.prog 27 #[x] w (Gives w (EV n)) := by
  obtain rfl : x = .string s := hx
  subst hn
  exact cut_v s w
theorem num_s {k n : Nat} {x : Value} (hx : isV (.int .u64 (k : Int)) x) (hk : k < 18446744073709551616) (hn : k % PP = n) (w : World) : Calls Tryd.prog 37 #[x] w (Gives w (EV n)) := by
  obtain rfl : x = .int .u64 (k : Int) := hx
  subst hn
  exact num_v k hk w
end Go.Proofs.YtbgpgbfiadhddaaDoor
